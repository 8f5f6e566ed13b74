/- The law SelectionSatisfies holds of every registry and root of bulk at most 1048576: the tied card of the second form. No condition beside the row's own. -/
import Derived.Test.YtfiilbdkhelhgaaDoorG2
import Derived.Test.YtfiilbdkhelhgaaDoorOpen2
import Derived.Test.YtfiilbdkhelhgaaDoorWL3
import Derived.Test.YtfiilbdkhelhgaaDoorWH2
import Derived.Test.YtfiilbdkhelhgaaDoorWH3
import Derived.Test.YtfiilbdkhelhgaaDoorLA6
import Derived.Test.YtfiilbdkhelhgaaDoorLB6
import Derived.Test.YtfiilbdkhelhgaaDoorFct
namespace Go.Proofs.YtfiilbdkhelhgaaDoor.lawSatis
open Go.ChangeShapes Go.WideShapes Go.ChangeAt Go.RowKit
open Go.ChangeMaps (open_string shut_string)

theorem paths_lt {R : Regy} {root : Mod} {D : List Mod} (h : Tail R root D) {i : Nat} (hi : i + 1 < D.length) : Op.bytesLess (D[i]'(by omega)).1 D[i + 1].1 = true := by
  have h1 := List.pairwise_iff_getElem.1 h.srt i (i + 1) (by omega) hi (by omega)
  have h2 := h.nod
  rw [List.nodup_iff_pairwise_ne, List.pairwise_map] at h2
  have h3 := List.pairwise_iff_getElem.1 h2 i (i + 1) (by omega) hi (by omega)
  unfold leOf at h1
  have h4 : ¬ ltOf mcmp D[i + 1] (D[i]'(by omega)) = true := by simpa using h1
  rw [mlt_iff] at h4
  cases hb : Op.bytesLess (D[i]'(by omega)).1 D[i + 1].1 with
  | true => rfl
  | false =>
    cases hc : Op.bytesLess D[i + 1].1 (D[i]'(by omega)).1 with
    | true => exact absurd (.inl hc) h4
    | false => exact absurd (bl_total _ _ hb hc) h3
/-- what is asked of a module of a build list -/
structure Okm (R : Regy) (rm : Mod) (l bl : List Mod) (k : Nat) (g : Mod) : Prop where
  inR : g ∈ R.map (·.1)
  ask : askedP R l g = true
  pth : g.1 ≠ rm.1
  met : ∀ y ∈ R, y.1 = g → meetsP bl y.2 = true
  lt : ∀ j (hj : j < bl.length), j + 1 = k → 1 ≤ j → Op.bytesLess bl[j].1 g.1 = true
set_option maxRecDepth 100000 in
theorem frame118_f80bed5e47 {Q : Exit → Act → World → Prop} {W : World} {fs : List Fact} (t0 t1 t2 t3 t4 t5 t6 t7 t8 t9 t10 t11 t12 t13 t14 t15 t16 t17 t18 t19 t20 t21 t22 t23 t24 t25 t26 t27 t28 t29 t30 t31 t32 t33 t34 t35 t36 t37 t38 t39 t40 t41 t42 t43 t44 t45 t46 t47 t48 t49 t50 t51 t52 t53 t54 t55 t56 t57 t58 t59 t60 t61 t62 t63 t64 t65 t66 t67 t68 t69 t70 t71 t72 t73 t74 t75 t76 t77 t78 t79 t80 t81 t82 t83 t84 t85 t86 t87 t88 t89 t90 t91 t92 t93 t94 t95 t96 t97 t98 t99 t100 t101 t102 t103 t104 t105 t106 t107 t108 t109 t110 t111 t112 t113 t114 t115 t116 t117 v0 v1 v2 v3 v4 v5 v6 v7 v8 v9 v10 v11 v12 v13 v14 v15 v16 v17 : Value) (h : Q .normal (Act.mk #[t0, t1, t2, t3, t4, t5, t6, t7, t8, t9, t10, t11, t12, t13, t14, t15, t16, t17, t18, t19, t20, t21, t22, t23, t24, t25, t26, t27, t28, v0, v1, v2, v3, v4, v5, v6, v7, v8, v9, v10, v11, v12, v13, v14, v15, v16, v17, t47, t48, t49, t50, t51, t52, t53, t54, t55, t56, t57, t58, t59, t60, t61, t62, t63, t64, t65, t66, t67, t68, t69, t70, t71, t72, t73, t74, t75, t76, t77, t78, t79, t80, t81, t82, t83, t84, t85, t86, t87, t88, t89, t90, t91, t92, t93, t94, t95, t96, t97, t98, t99, t100, t101, t102, t103, t104, t105, t106, t107, t108, t109, t110, t111, t112, t113, t114, t115, t116, t117] []) W) : FinAll W (fun A => Q .normal A W) [] fs (Act.put (Act.put (Act.put (Act.put (Act.put (Act.put (Act.put (Act.put (Act.put (Act.put (Act.put (Act.put (Act.put (Act.put (Act.put (Act.put (Act.put (Act.put (Act.mk #[t0, t1, t2, t3, t4, t5, t6, t7, t8, t9, t10, t11, t12, t13, t14, t15, t16, t17, t18, t19, t20, t21, t22, t23, t24, t25, t26, t27, t28, t29, t30, t31, t32, t33, t34, t35, t36, t37, t38, t39, t40, t41, t42, t43, t44, t45, t46, t47, t48, t49, t50, t51, t52, t53, t54, t55, t56, t57, t58, t59, t60, t61, t62, t63, t64, t65, t66, t67, t68, t69, t70, t71, t72, t73, t74, t75, t76, t77, t78, t79, t80, t81, t82, t83, t84, t85, t86, t87, t88, t89, t90, t91, t92, t93, t94, t95, t96, t97, t98, t99, t100, t101, t102, t103, t104, t105, t106, t107, t108, t109, t110, t111, t112, t113, t114, t115, t116, t117] []) (some 29) v0) (some 30) v1) (some 31) v2) (some 32) v3) (some 33) v4) (some 34) v5) (some 35) v6) (some 36) v7) (some 37) v8) (some 38) v9) (some 39) v10) (some 40) v11) (some 41) v12) (some 42) v13) (some 43) v14) (some 44) v15) (some 45) v16) (some 46) v17) :=
  fin_end (by kernel_rfl) h
set_option maxRecDepth 100000 in
theorem frame118_59_60_61_62_63_64_65_66_67_68 {Q : Exit → Act → World → Prop} {W : World} {fs : List Fact} (t0 t1 t2 t3 t4 t5 t6 t7 t8 t9 t10 t11 t12 t13 t14 t15 t16 t17 t18 t19 t20 t21 t22 t23 t24 t25 t26 t27 t28 t29 t30 t31 t32 t33 t34 t35 t36 t37 t38 t39 t40 t41 t42 t43 t44 t45 t46 t47 t48 t49 t50 t51 t52 t53 t54 t55 t56 t57 t58 t59 t60 t61 t62 t63 t64 t65 t66 t67 t68 t69 t70 t71 t72 t73 t74 t75 t76 t77 t78 t79 t80 t81 t82 t83 t84 t85 t86 t87 t88 t89 t90 t91 t92 t93 t94 t95 t96 t97 t98 t99 t100 t101 t102 t103 t104 t105 t106 t107 t108 t109 t110 t111 t112 t113 t114 t115 t116 t117 v0 v1 v2 v3 v4 v5 v6 v7 v8 v9 : Value) (h : Q .normal (Act.mk #[t0, t1, t2, t3, t4, t5, t6, t7, t8, t9, t10, t11, t12, t13, t14, t15, t16, t17, t18, t19, t20, t21, t22, t23, t24, t25, t26, t27, t28, t29, t30, t31, t32, t33, t34, t35, t36, t37, t38, t39, t40, t41, t42, t43, t44, t45, t46, t47, t48, t49, t50, t51, t52, t53, t54, t55, t56, t57, t58, v0, v1, v2, v3, v4, v5, v6, v7, v8, v9, t69, t70, t71, t72, t73, t74, t75, t76, t77, t78, t79, t80, t81, t82, t83, t84, t85, t86, t87, t88, t89, t90, t91, t92, t93, t94, t95, t96, t97, t98, t99, t100, t101, t102, t103, t104, t105, t106, t107, t108, t109, t110, t111, t112, t113, t114, t115, t116, t117] []) W) : FinAll W (fun A => Q .normal A W) [] fs (Act.put (Act.put (Act.put (Act.put (Act.put (Act.put (Act.put (Act.put (Act.put (Act.put (Act.mk #[t0, t1, t2, t3, t4, t5, t6, t7, t8, t9, t10, t11, t12, t13, t14, t15, t16, t17, t18, t19, t20, t21, t22, t23, t24, t25, t26, t27, t28, t29, t30, t31, t32, t33, t34, t35, t36, t37, t38, t39, t40, t41, t42, t43, t44, t45, t46, t47, t48, t49, t50, t51, t52, t53, t54, t55, t56, t57, t58, t59, t60, t61, t62, t63, t64, t65, t66, t67, t68, t69, t70, t71, t72, t73, t74, t75, t76, t77, t78, t79, t80, t81, t82, t83, t84, t85, t86, t87, t88, t89, t90, t91, t92, t93, t94, t95, t96, t97, t98, t99, t100, t101, t102, t103, t104, t105, t106, t107, t108, t109, t110, t111, t112, t113, t114, t115, t116, t117] []) (some 59) v0) (some 60) v1) (some 61) v2) (some 62) v3) (some 63) v4) (some 64) v5) (some 65) v6) (some 66) v7) (some 67) v8) (some 68) v9) :=
  fin_end (by kernel_rfl) h
set_option maxRecDepth 100000 in
theorem frame118_1d74067c6e {Q : Exit → Act → World → Prop} {W : World} {fs : List Fact} (t0 t1 t2 t3 t4 t5 t6 t7 t8 t9 t10 t11 t12 t13 t14 t15 t16 t17 t18 t19 t20 t21 t22 t23 t24 t25 t26 t27 t28 t29 t30 t31 t32 t33 t34 t35 t36 t37 t38 t39 t40 t41 t42 t43 t44 t45 t46 t47 t48 t49 t50 t51 t52 t53 t54 t55 t56 t57 t58 t59 t60 t61 t62 t63 t64 t65 t66 t67 t68 t69 t70 t71 t72 t73 t74 t75 t76 t77 t78 t79 t80 t81 t82 t83 t84 t85 t86 t87 t88 t89 t90 t91 t92 t93 t94 t95 t96 t97 t98 t99 t100 t101 t102 t103 t104 t105 t106 t107 t108 t109 t110 t111 t112 t113 t114 t115 t116 t117 v0 v1 v2 v3 v4 v5 v6 v7 v8 v9 v10 v11 v12 v13 v14 v15 v16 v17 v18 v19 v20 v21 v22 v23 v24 v25 v26 v27 v28 v29 v30 v31 v32 v33 v34 v35 v36 v37 v38 v39 v40 : Value) (h : Q .normal (Act.mk #[t0, t1, t2, t3, t4, t5, t6, t7, t8, t9, t10, t11, t12, t13, t14, t15, t16, t17, t18, t19, t20, t21, t22, t23, t24, t25, t26, t27, t28, t29, t30, t31, t32, t33, t34, t35, t36, t37, t38, t39, t40, t41, t42, t43, t44, t45, t46, t47, t48, t49, t50, t51, t52, t53, t54, t55, t56, t57, t58, t59, t60, t61, t62, t63, t64, t65, t66, t67, t68, t69, t70, t71, t72, t73, t74, t75, v0, v1, v2, v3, v4, v5, v6, v7, v8, v9, v10, v11, v12, v13, v14, v15, v16, v17, v18, v19, v20, v21, v22, v23, v24, v25, v26, v27, v28, v29, v30, v31, v32, v33, v34, v35, v36, v37, v38, v39, v40, t117] []) W) : FinAll W (fun A => Q .normal A W) [] fs (Act.put (Act.put (Act.put (Act.put (Act.put (Act.put (Act.put (Act.put (Act.put (Act.put (Act.put (Act.put (Act.put (Act.put (Act.put (Act.put (Act.put (Act.put (Act.put (Act.put (Act.put (Act.put (Act.put (Act.put (Act.put (Act.put (Act.put (Act.put (Act.put (Act.put (Act.put (Act.put (Act.put (Act.put (Act.put (Act.put (Act.put (Act.put (Act.put (Act.put (Act.put (Act.mk #[t0, t1, t2, t3, t4, t5, t6, t7, t8, t9, t10, t11, t12, t13, t14, t15, t16, t17, t18, t19, t20, t21, t22, t23, t24, t25, t26, t27, t28, t29, t30, t31, t32, t33, t34, t35, t36, t37, t38, t39, t40, t41, t42, t43, t44, t45, t46, t47, t48, t49, t50, t51, t52, t53, t54, t55, t56, t57, t58, t59, t60, t61, t62, t63, t64, t65, t66, t67, t68, t69, t70, t71, t72, t73, t74, t75, t76, t77, t78, t79, t80, t81, t82, t83, t84, t85, t86, t87, t88, t89, t90, t91, t92, t93, t94, t95, t96, t97, t98, t99, t100, t101, t102, t103, t104, t105, t106, t107, t108, t109, t110, t111, t112, t113, t114, t115, t116, t117] []) (some 76) v0) (some 77) v1) (some 78) v2) (some 79) v3) (some 80) v4) (some 81) v5) (some 82) v6) (some 83) v7) (some 84) v8) (some 85) v9) (some 86) v10) (some 87) v11) (some 88) v12) (some 89) v13) (some 90) v14) (some 91) v15) (some 92) v16) (some 93) v17) (some 94) v18) (some 95) v19) (some 96) v20) (some 97) v21) (some 98) v22) (some 99) v23) (some 100) v24) (some 101) v25) (some 102) v26) (some 103) v27) (some 104) v28) (some 105) v29) (some 106) v30) (some 107) v31) (some 108) v32) (some 109) v33) (some 110) v34) (some 111) v35) (some 112) v36) (some 113) v37) (some 114) v38) (some 115) v39) (some 116) v40) :=
  fin_end (by kernel_rfl) h
set_option maxRecDepth 100000 in
set_option maxHeartbeats 4000000 in
theorem walk (A : Option Addr) (c : Nat) (L : List ManW) (y0 : ManW) (w : World) (hS : Sl w w.heap.size 5 encW A L) (hO : ∀ y ∈ L, inW w 1048576 y) (hl : L.length ≤ 1048576) (hO1 : inW w 1048576 y0) (hG : Glob w) :
    Calls Tryd.prog 3 #[.slice A L.length c, .agg (encW y0).toArray] w fun e w' => e = .returned (.bool true) ∧ Below w.heap.size w w' := by
  have HL := Lib.hid (reg_in hS hO hl)
  have H1 := Lib.hid (man_in hO1)
  have HG := Lib.hid hG
  clear hS hO hG hl hO1
  have HB0 := Lib.hid (show Below w.heap.size w (w.alloc (.cells (encW y0).toArray 29)) from (Below.refl _ _).alloc (Nat.le_refl _) _)
  have Q0 := Lib.hid (Blk.new w 29 (encW y0).toArray)
  have cS := Lib.hid (fun W (hW : Below w.heap.size w W) => small_any A c L y0 W (HL.out.step hW) (H1.out.step hW))
  have HOK := Lib.hid (fun (h : smallP (regW L) ∧ smallP [plainW y0]) W (hW : Below w.heap.size w W) => (HL.out.ok h.1).step hW)
  have HOM := Lib.hid (fun (h : smallP (regW L) ∧ smallP [plainW y0]) => H1.out.ok h.2)
  have cX := Lib.hid (fun W (hW : Below w.heap.size w W) => example_any W (HG.out.keep hW))
  obtain ⟨rm, A0, c0, l0⟩ := y0
  simp only at cS HOM
  generalize (smallP (regW L) ∧ smallP [plainW (rm, A0, c0, l0)]) = P at cS HOK HOM
  simp only [encW] at Q0 HB0 ⊢
  go_enter Tryd.func3, Tryd.ntmps3
  go_wp2_with fail
  refine (cS.out _ HB0.out).mono ?_
  rintro e w1 ⟨b, rfl, hbi, hb1⟩
  have HB1 := Lib.hid (HB0.out.trans (hb1.mono HB0.out.size))
  have Q1 := Lib.hid (Q0.out.keep hb1)
  have HBI := Lib.hid hbi
  clear hb1 hbi cS
  cases b
  · go_wp2_with fail
    refine (cX.out _ HB1.out).mono ?_
    rintro e w2 ⟨rfl, hb2⟩
    have HB2 := Lib.hid (HB1.out.trans (hb2.mono HB1.out.size))
    clear hb2 cX
    go_wp2
    go_ret
    exact ⟨rfl, HB2.out⟩
  · have HP := Lib.hid (show P from by have h := HBI.out; simpa using h)
    clear HBI
    have HR := Lib.hid (fun W (hW : Below w.heap.size w W) => HOK.out HP.out W hW)
    have HM0 := Lib.hid (HOM.out HP.out)
    have hLl : L.length ≤ 100 := (HR.out _ (Below.refl _ _)).2.2
    have hl0 : l0.length ≤ 100 := HM0.out.2.1
    have hU : (univ (regW L) l0).length ≤ 10100 := by
      have h3 := univ_len (regW L) l0 (by simpa [regW] using hLl) (fun x hx => by
        obtain ⟨y, hy, rfl⟩ := List.mem_map.1 hx
        exact ((HR.out _ (Below.refl _ _)).2.1 y hy).2.1)
      omega
    have hbl := Nat.le_trans (buildP_len (regW L) rm l0) (Nat.succ_le_succ hU)
    have cB0 := fun W (hW : Below w.heap.size w W) => BuildList_any A c L (rm, A0, c0, l0) W (HR.out W hW) ((HM0.out.keep hW).more hW.size) (HG.out.keep hW)
    have cAs0 := Lib.hid (fun (g : Mod) W (hW : Below w.heap.size w W) => asked_any A c L (rm, A0, c0, l0) g W (HR.out W hW) ((HM0.out.keep hW).more hW.size))
    have HK0 : (buildP (regW L) rm l0).2 = 0 → (∃ h : 0 < (buildP (regW L) rm l0).1.length, (buildP (regW L) rm l0).1[0] = rm) ∧ meetsP (buildP (regW L) rm l0).1 l0 = true ∧ ∀ k (hk : k < (buildP (regW L) rm l0).1.length), 1 ≤ k → Okm (regW L) rm l0 (buildP (regW L) rm l0).1 k (buildP (regW L) rm l0).1[k] := by
      intro hb
      have hn := built_nodup hb
      obtain ⟨D, hB⟩ := built hb
      have e : (buildP (regW L) rm l0).1 = rm :: D := by rw [hB.eq]
      rw [e]
      refine ⟨⟨by simp, rfl⟩, hB.meets, fun k hk hk1 => ?_⟩
      obtain ⟨j, rfl⟩ : ∃ j, k = j + 1 := ⟨k - 1, by omega⟩
      rw [List.getElem_cons_succ]
      have hj : j < D.length := by simpa using hk
      have hg : D[j] ∈ D := List.getElem_mem _
      refine ⟨(hB.tail.mem _ hg).1, hB.asked hg, (hB.tail.mem _ hg).2, fun y hy he => hB.meets2 hn hg hy he, fun i hi hij hi1 => ?_⟩
      obtain ⟨i, rfl⟩ : ∃ i', i = i' + 1 := ⟨i - 1, by omega⟩
      obtain rfl : i + 1 = j := by omega
      simpa using paths_lt hB.tail hj
    have HE0 : (buildP (regW L) rm l0).2 ≠ 0 → (buildP (regW L) rm l0).1 = [] := fun h => buildP_err h
    simp only at cB0
    generalize buildP (regW L) rm l0 = B at cB0 HK0 HE0 hbl
    obtain ⟨bl, e1⟩ := B
    unfold RetB at cB0
    simp only at cB0 HK0 HE0 hbl cAs0
    have cB := Lib.hid cB0
    obtain ⟨y0, y1, y2, y3, y4⟩ := manC Q1.out
    go_wp2_with fail
    refine (cB.out _ HB1.out).mono ?_
    rintro e w2 ⟨A2, c2, rfl, _, hS2, hb2⟩
    have HB2 := Lib.hid (HB1.out.trans (hb2.mono HB1.out.size))
    have Q2 := Lib.hid (Q1.out.keep hb2)
    have S2 := Lib.hid hS2
    clear hb2 y0 y1 y2 y3 y4 hS2 cB cB0
    by_cases he1 : e1 = 0
    rotate_left
    · have h2 := HE0 he1
      subst h2
      have he : (e1 == 0) = false := by simpa using he1
      clear HE0 HK0 he1
      go_wp2_with fail
      refine (cX.out _ HB2.out).mono ?_
      rintro e w10 ⟨rfl, hb10⟩
      have HBF := Lib.hid (HB2.out.trans (hb10.mono HB2.out.size))
      clear hb10 cX
      go_wp2
      go_ret
      exact ⟨rfl, HBF.out⟩
    subst he1
    obtain ⟨⟨hp0, hf0⟩, hme, hok⟩ := HK0 rfl
    have HOKM := Lib.hid hok
    have cMe0 := fun (A1 : Option Addr) (c1 : Nat) (req : List Mod) W (hb : Below w2.heap.size w2 W) (hr : Sl W W.heap.size 4 encM A1 req) (hn : req.length ≤ 100) => meets_any A2 A1 c2 c1 bl req W ((S2.out.below hb).more hb.size) hr hp0 (by omega) (by omega)
    have CME := Lib.hid cMe0
    have cMe := Lib.hid (fun W (hb : Below w2.heap.size w2 W) => show Calls Tryd.prog 11 _ W (fun e w' => e = .returned (.bool true) ∧ Below W.heap.size W w') by
      have h := cMe0 A0 c0 l0 W hb (((HM0.out.1.below HB2.out).more HB2.out.size |>.below hb).more hb.size) hl0
      rw [hme] at h
      exact h)
    obtain ⟨pl, ol, hA2, hpl, u0, u1, u2, u3⟩ := S2.out.mod hp0
    rw [hf0] at u0 u1 u2 u3
    simp only [Nat.zero_mul, Nat.add_zero] at u0 u1 u2 u3
    obtain ⟨q0, q1, q2, q3, q4⟩ := manC (m := rm) (A := A0) (n := l0.length) (c := c0) Q2.out
    have hwz : w.heap.size < w2.heap.size := Q2.out.lt
    have h0i : (0 : Int) < (bl.length : Int) := by omega
    have hbn : ((bl.length : Int) == 0) = false := beq_eq_false_iff_ne.2 (by omega)
    have heq := fun W => eq_mod rm.1 rm.1 rm.2.1 rm.2.2.1 rm.2.2.2 rm.2.1 rm.2.2.1 rm.2.2.2 W
    rw [decide_eq_true rfl] at heq
    have HA2 := Lib.hid hA2
    subst hA2
    clear HE0 HK0 hf0 hme hok cMe0
    go_upto_region 6 with fail
    apply wp_region_facts (by kernel_rfl) [isv _, isv _, isv _, isv _, isv _, isv _, isv _, isv _, isv _, isv _, isv _, isv _, isv _, isv _, isv _, isv _, isv _, isv _] w2.heap.size w2 (Nat.le_refl _) (Below.refl _ _).drew (by kernel_rfl) (by kernel_rfl) (by kernel_rfl) (And.intro (isv_mono _) (And.intro (isv_mono _) (And.intro (isv_mono _) (And.intro (isv_mono _) (And.intro (isv_mono _) (And.intro (isv_mono _) (And.intro (isv_mono _) (And.intro (isv_mono _) (And.intro (isv_mono _) (And.intro (isv_mono _) (And.intro (isv_mono _) (And.intro (isv_mono _) (And.intro (isv_mono _) (And.intro (isv_mono _) (And.intro (isv_mono _) (And.intro (isv_mono _) (And.intro (isv_mono _) (And.intro (isv_mono _) trivial)))))))))))))))))) ?steps (by rfl) ?fin
    case steps =>
      refine (And.intro ?o0 (And.intro ?o1 (And.intro ?o2 (And.intro ?o3 (And.intro ?o4 (And.intro ?o5 (And.intro ?o6 (And.intro ?o7 (And.intro ?o8 (And.intro ?o9 (And.intro ?o10 (And.intro ?o11 (And.intro ?o12 (And.intro ?o13 (And.intro ?o14 (And.intro ?o15 (And.intro ?o16 (And.intro ?o17 trivial))))))))))))))))))
      case o0 =>
        intro AA W KK QQ hB hs hd hl hk
        have sl5 := hs 5 _ (by kernel_rfl) rfl
        clear hs hd hl
        go_simp
        exact hk _ _ rfl (Below.refl _ _)
      case o1 =>
        intro AA W KK QQ hB hs hd hl hk
        obtain ⟨_, sl29, rfl⟩ := hd 0 29 (by kernel_rfl) rfl
        clear hs hd hl
        go_simp
        exact hk _ _ rfl (Below.refl _ _)
      case o2 =>
        intro AA W KK QQ hB hs hd hl hk
        obtain ⟨_, sl30, rfl⟩ := hd 1 30 (by kernel_rfl) rfl
        clear hs hd hl
        go_simp
        exact hk _ _ rfl (Below.refl _ _)
      case o3 =>
        intro AA W KK QQ hB hs hd hl hk
        obtain ⟨_, sl31, rfl⟩ := hd 2 31 (by kernel_rfl) rfl
        clear hs hd hl
        go_simp
        exact hk _ _ rfl (Below.refl _ _)
      case o4 =>
        intro AA W KK QQ hB hs hd hl hk
        have sl5 := hs 5 _ (by kernel_rfl) rfl
        obtain ⟨_, sl32, rfl⟩ := hd 3 32 (by kernel_rfl) rfl
        clear hs hd hl
        refine ⟨_, _, rfl, sl32, ?_⟩
        first
          | (change Oper.wp _ _ _ _ _ _; go_simp; exact hk _ _ rfl (Below.refl _ _))
          | exact rfl
      case o5 =>
        intro AA W KK QQ hB hs hd hl hk
        obtain ⟨_, sl32, rfl⟩ := hd 3 32 (by kernel_rfl) rfl
        obtain ⟨_, sl33, rfl⟩ := hd 4 33 (by kernel_rfl) rfl
        clear hs hd hl
        refine ⟨_, _, rfl, sl32, ?_⟩
        first
          | (change Oper.wp _ _ _ _ _ _; go_simp; exact hk _ _ rfl (Below.refl _ _))
          | exact rfl
      case o6 =>
        intro AA W KK QQ hB hs hd hl hk
        obtain ⟨_, sl32, rfl⟩ := hd 3 32 (by kernel_rfl) rfl
        obtain ⟨_, sl34, rfl⟩ := hd 5 34 (by kernel_rfl) rfl
        clear hs hd hl
        have hx0 := hB.cell (p := ⟨pl, ol, none⟩) hpl
        have hx1 := hB.cell (p := ⟨pl, ol + 1, none⟩) hpl
        have hx2 := hB.cell (p := ⟨pl, ol + 2, none⟩) hpl
        have hx3 := hB.cell (p := ⟨pl, ol + 3, none⟩) hpl
        rw [u0] at hx0
        rw [u1] at hx1
        rw [u2] at hx2
        rw [u3] at hx3
        refine ⟨_, _, rfl, sl32, ?_⟩
        first
          | (change Oper.wp _ _ _ _ _ _; go_simp; exact hk _ _ rfl (Below.refl _ _))
          | exact rfl
      case o7 =>
        intro AA W KK QQ hB hs hd hl hk
        have sl3 := hs 3 _ (by kernel_rfl) rfl
        obtain ⟨_, sl32, rfl⟩ := hd 3 32 (by kernel_rfl) rfl
        clear hs hd hl
        refine ⟨_, _, rfl, sl32, ?_⟩
        first
          | (change Oper.wp _ _ _ _ _ _; go_simp; exact hk _ _ rfl (Below.refl _ _))
          | exact rfl
      case o8 =>
        intro AA W KK QQ hB hs hd hl hk
        obtain ⟨_, sl32, rfl⟩ := hd 3 32 (by kernel_rfl) rfl
        obtain ⟨_, sl36, rfl⟩ := hd 7 36 (by kernel_rfl) rfl
        clear hs hd hl
        have hx0 := hB.cell (p := ⟨w.heap.size, 0, none⟩) hwz
        have hx1 := hB.cell (p := ⟨w.heap.size, 0 + 1, none⟩) hwz
        have hx2 := hB.cell (p := ⟨w.heap.size, 0 + 2, none⟩) hwz
        have hx3 := hB.cell (p := ⟨w.heap.size, 0 + 3, none⟩) hwz
        rw [q0] at hx0
        rw [q1] at hx1
        rw [q2] at hx2
        rw [q3] at hx3
        refine ⟨_, _, rfl, sl32, ?_⟩
        first
          | (change Oper.wp _ _ _ _ _ _; go_simp; exact hk _ _ rfl (Below.refl _ _))
          | exact rfl
      case o9 =>
        intro AA W KK QQ hB hs hd hl hk
        obtain ⟨_, sl32, rfl⟩ := hd 3 32 (by kernel_rfl) rfl
        obtain ⟨_, sl35, rfl⟩ := hd 6 35 (by kernel_rfl) rfl
        obtain ⟨_, sl37, rfl⟩ := hd 8 37 (by kernel_rfl) rfl
        clear hs hd hl
        refine ⟨_, _, rfl, sl32, ?_⟩
        first
          | (change Oper.wp _ _ _ _ _ _; go_simp; exact hk _ _ rfl (Below.refl _ _))
          | exact rfl
      case o10 =>
        intro AA W KK QQ hB hs hd hl hk
        obtain ⟨_, sl32, rfl⟩ := hd 3 32 (by kernel_rfl) rfl
        obtain ⟨_, sl38, rfl⟩ := hd 9 38 (by kernel_rfl) rfl
        clear hs hd hl
        go_simp
        exact hk _ _ rfl (Below.refl _ _)
      case o11 =>
        intro AA W KK QQ hB hs hd hl hk
        obtain ⟨_, sl39, rfl⟩ := hd 10 39 (by kernel_rfl) rfl
        clear hs hd hl
        go_simp
        exact hk _ _ rfl (Below.refl _ _)
      case o12 =>
        intro AA W KK QQ hB hs hd hl hk
        have sl5 := hs 5 _ (by kernel_rfl) rfl
        obtain ⟨_, sl40, rfl⟩ := hd 11 40 (by kernel_rfl) rfl
        clear hs hd hl
        refine ⟨_, _, rfl, sl40, ?_⟩
        first
          | (change Oper.wp _ _ _ _ _ _; go_simp; exact hk _ _ rfl (Below.refl _ _))
          | exact rfl
      case o13 =>
        intro AA W KK QQ hB hs hd hl hk
        have sl3 := hs 3 _ (by kernel_rfl) rfl
        obtain ⟨_, sl40, rfl⟩ := hd 11 40 (by kernel_rfl) rfl
        clear hs hd hl
        refine ⟨_, _, rfl, sl40, ?_⟩
        first
          | (change Oper.wp _ _ _ _ _ _; go_simp; exact hk _ _ rfl (Below.refl _ _))
          | exact rfl
      case o14 =>
        intro AA W KK QQ hB hs hd hl hk
        obtain ⟨_, sl40, rfl⟩ := hd 11 40 (by kernel_rfl) rfl
        obtain ⟨_, sl42, rfl⟩ := hd 13 42 (by kernel_rfl) rfl
        clear hs hd hl
        have hx4 := hB.cell (p := ⟨w.heap.size, 4, none⟩) hwz
        rw [q4] at hx4
        refine ⟨_, _, rfl, sl40, ?_⟩
        first
          | (change Oper.wp _ _ _ _ _ _; go_simp; exact hk _ _ rfl (Below.refl _ _))
          | exact rfl
      case o15 =>
        intro AA W KK QQ hB hs hd hl hk
        obtain ⟨_, sl40, rfl⟩ := hd 11 40 (by kernel_rfl) rfl
        obtain ⟨_, sl41, rfl⟩ := hd 12 41 (by kernel_rfl) rfl
        obtain ⟨_, sl43, rfl⟩ := hd 14 43 (by kernel_rfl) rfl
        clear hs hd hl
        refine ⟨_, _, rfl, sl40, ?_⟩
        change Oper.wp _ _ _ _ _ _
        go_simp
        refine (cMe.out W hB).mono ?_
        rintro e W2 ⟨rfl, hb2⟩
        exact hk _ _ rfl hb2
      case o16 =>
        intro AA W KK QQ hB hs hd hl hk
        obtain ⟨_, sl40, rfl⟩ := hd 11 40 (by kernel_rfl) rfl
        obtain ⟨_, sl44, rfl⟩ := hd 15 44 (by kernel_rfl) rfl
        clear hs hd hl
        refine ⟨_, _, rfl, sl40, ?_⟩
        first
          | (change Oper.wp _ _ _ _ _ _; go_simp; exact hk _ _ rfl (Below.refl _ _))
          | exact rfl
      case o17 =>
        intro AA W KK QQ hB hs hd hl hk
        obtain ⟨_, sl40, rfl⟩ := hd 11 40 (by kernel_rfl) rfl
        obtain ⟨_, sl45, rfl⟩ := hd 16 45 (by kernel_rfl) rfl
        clear hs hd hl
        go_simp
        exact hk _ _ rfl (Below.refl _ _)
    case fin =>
      intro w3 hB
      refine fin_isv 29 rfl ?_
      refine fin_isv 30 rfl ?_
      refine fin_isv 31 rfl ?_
      refine fin_isv 32 rfl ?_
      refine fin_isv 33 rfl ?_
      refine fin_isv 34 rfl ?_
      refine fin_isv 35 rfl ?_
      refine fin_isv 36 rfl ?_
      refine fin_isv 37 rfl ?_
      refine fin_isv 38 rfl ?_
      refine fin_isv 39 rfl ?_
      refine fin_isv 40 rfl ?_
      refine fin_isv 41 rfl ?_
      refine fin_isv 42 rfl ?_
      refine fin_isv 43 rfl ?_
      refine fin_isv 44 rfl ?_
      refine fin_isv 45 rfl ?_
      refine fin_isv 46 rfl ?_
      refine frame118_f80bed5e47 _ _ _ _ _ _ _ _ _ _ _ _ _ _ _ _ _ _ _ _ _ _ _ _ _ _ _ _ _ _ _ _ _ _ _ _ _ _ _ _ _ _ _ _ _ _ _ _ _ _ _ _ _ _ _ _ _ _ _ _ _ _ _ _ _ _ _ _ _ _ _ _ _ _ _ _ _ _ _ _ _ _ _ _ _ _ _ _ _ _ _ _ _ _ _ _ _ _ _ _ _ _ _ _ _ _ _ _ _ _ _ _ _ _ _ _ _ _ _ _ _ _ _ _ _ _ _ _ _ _ _ _ _ _ _ _ ?_
      have HB3 := Lib.hid (HB2.out.trans (hB.mono HB2.out.size))
      have HW3 := Lib.hid hB
      have Q3 := Lib.hid (Q2.out.keep hB)
      have S3 := Lib.hid ((S2.out.below hB).more hB.size)
      clear hB u0 u1 u2 u3 q0 q1 q2 q3 q4 cMe heq
      go_wp2_with fail
      go_loopw [7] (fun i wr => ∃ k : Nat, 1 ≤ k ∧ k ≤ bl.length ∧ i = .int .i64 (k : Nat) ∧ Hid (Below w3.heap.size w3 wr)) (fun i _ => bl.length + 1 - (intOf i).toNat)
      case atStart => exact ⟨1, Nat.le_refl _, hp0, rfl, Lib.hid (Below.refl _ _)⟩
      case round =>
        obtain ⟨wo, hwo⟩ : ∃ wo, wo = wr := ⟨_, rfl⟩
        subst hwo
        obtain ⟨k, hk1, hk, rfl, HB⟩ := hrel
        have HBo := Lib.hid (HB3.out.trans (HB.out.mono HB3.out.size))
        by_cases hlt : k < bl.length
        · have hlt' : (k : Int) < (bl.length : Int) := by omega
          have hk0 : (0 : Int) ≤ (k : Int) := by omega
          have hok := HOKM.out k hlt hk1
          have So := Lib.hid ((S3.out.below HB.out).more HB.out.size)
          obtain ⟨pl', ol', hA2, hpl, u0, u1, u2, u3⟩ := So.out.mod hlt
          obtain ⟨rfl, rfl⟩ : pl = pl' ∧ ol = ol' := by injection hA2 with h; injection h with h1 h2; exact ⟨h1, h2⟩
          obtain ⟨g, hg⟩ : ∃ g, g = bl[k] := ⟨_, rfl⟩
          rw [← hg] at hok
          have HGK := Lib.hid (fun (h : k < bl.length) => show bl[k] = g from hg.symm)
          have HOG := Lib.hid hok
          clear hA2 hok u0 u1 u2 u3 hg
          go_wp2_with fail
          go_loopw [8, 9] (fun f i wr => ∃ n : Nat, n ≤ L.length ∧ i = .int .i64 (n : Nat) ∧ f = .bool (decide (g ∈ (L.take n).map (·.1))) ∧ Hid (Below wo.heap.size wo wr)) (fun _ i _ => L.length - (intOf i).toNat)
          case atStart => exact ⟨0, Nat.zero_le _, rfl, by simp, Lib.hid (Below.refl _ _)⟩
          case round =>
            obtain ⟨wk, hwk⟩ : ∃ wk, wk = wr := ⟨_, rfl⟩
            subst hwk
            obtain ⟨n, hn, rfl, rfl, HBn⟩ := hrel
            have HBk := Lib.hid (HBo.out.trans (HBn.out.mono HBo.out.size))
            have HB23 := Lib.hid (HW3.out.trans ((HB.out.trans (HBn.out.mono HB.out.size)).mono HW3.out.size))
            have Sk := Lib.hid ((So.out.below HBn.out).more HBn.out.size)
            obtain ⟨pl', ol', hA2, hpl, u0, u1, u2, u3⟩ := Sk.out.mod hlt
            obtain ⟨rfl, rfl⟩ : pl = pl' ∧ ol = ol' := by injection hA2 with h; injection h with h1 h2; exact ⟨h1, h2⟩
            have hgk : bl[k] = g := HGK.out hlt
            rw [hgk] at u0 u1 u2 u3
            by_cases hnl : n < L.length
            · have hnl' : (n : Int) < (L.length : Int) := by omega
              obtain ⟨b, off, hA1, hbB, g0, g1, g2, g3, g4⟩ := (HR.out _ HBk.out).1.man hnl
              have hy := (HR.out _ HBk.out).2.1 _ (List.getElem_mem hnl)
              have hmet := HOG.out.met (plainW L[n]) (List.mem_map.2 ⟨_, List.getElem_mem hnl, rfl⟩)
              have HTn := Lib.hid (List.take_succ_eq_append_getElem hnl)
              generalize L[n] = y at g0 g1 g2 g3 g4 hy hmet HTn
              have HA1 := Lib.hid hA1
              subst hA1
              have hyS := hy.1
              have hyn := hy.2.1
              clear hy hA2 hgk
              obtain ⟨m, A3, c3, l3⟩ := y
              simp only [plainW] at g0 g1 g2 g3 g4 hmet hyS hyn HTn
              have heq := fun W => eq_mod m.1 g.1 m.2.1 m.2.2.1 m.2.2.2 g.2.1 g.2.2.1 g.2.2.2 W
              by_cases hm : m = g
              · subst hm
                rw [decide_eq_true rfl] at heq
                have HMT := Lib.hid (hmet rfl)
                have HF := Lib.hid (show decide (m ∈ (L.take (n + 1)).map (·.1)) = true from decide_eq_true (by rw [HTn.out]; simp))
                have HYS := Lib.hid hyS
                clear hmet hyS
                go_upto_region 15 with fail
                apply wp_region_facts (by kernel_rfl) [isv _, isv _, isv _, isv _, isv _, isv _, isv _, isv _, isv _, isv _] wk.heap.size wk (Nat.le_refl _) (Below.refl _ _).drew (by kernel_rfl) (by kernel_rfl) (by kernel_rfl) (And.intro (isv_mono _) (And.intro (isv_mono _) (And.intro (isv_mono _) (And.intro (isv_mono _) (And.intro (isv_mono _) (And.intro (isv_mono _) (And.intro (isv_mono _) (And.intro (isv_mono _) (And.intro (isv_mono _) (And.intro (isv_mono _) trivial)))))))))) ?steps (by rfl) ?fin
                case steps =>
                  refine (And.intro ?o0 (And.intro ?o1 (And.intro ?o2 (And.intro ?o3 (And.intro ?o4 (And.intro ?o5 (And.intro ?o6 (And.intro ?o7 (And.intro ?o8 (And.intro ?o9 trivial))))))))))
                  case o0 =>
                    intro AA W KK QQ hB hs hd hl hk
                    have sl0 := hs 0 _ (by kernel_rfl) rfl
                    clear hs hd hl
                    go_simp
                    exact hk _ _ rfl (Below.refl _ _)
                  case o1 =>
                    intro AA W KK QQ hB hs hd hl hk
                    have sl9 := hs 9 _ (by kernel_rfl) rfl
                    clear hs hd hl
                    go_simp
                    exact hk _ _ rfl (Below.refl _ _)
                  case o2 =>
                    intro AA W KK QQ hB hs hd hl hk
                    obtain ⟨_, sl59, rfl⟩ := hd 0 59 (by kernel_rfl) rfl
                    obtain ⟨_, sl60, rfl⟩ := hd 1 60 (by kernel_rfl) rfl
                    clear hs hd hl
                    go_simp
                    exact hk _ _ rfl (Below.refl _ _)
                  case o3 =>
                    intro AA W KK QQ hB hs hd hl hk
                    obtain ⟨_, sl61, rfl⟩ := hd 2 61 (by kernel_rfl) rfl
                    clear hs hd hl
                    go_simp
                    exact hk _ _ rfl (Below.refl _ _)
                  case o4 =>
                    intro AA W KK QQ hB hs hd hl hk
                    obtain ⟨_, sl62, rfl⟩ := hd 3 62 (by kernel_rfl) rfl
                    clear hs hd hl
                    have hx0 := hB.cell (p := ⟨b, off + n * 5, none⟩) hbB
                    have hx1 := hB.cell (p := ⟨b, off + n * 5 + 1, none⟩) hbB
                    have hx2 := hB.cell (p := ⟨b, off + n * 5 + 2, none⟩) hbB
                    have hx3 := hB.cell (p := ⟨b, off + n * 5 + 3, none⟩) hbB
                    rw [g0] at hx0
                    rw [g1] at hx1
                    rw [g2] at hx2
                    rw [g3] at hx3
                    go_simp
                    exact hk _ _ rfl (Below.refl _ _)
                  case o5 =>
                    intro AA W KK QQ hB hs hd hl hk
                    have sl5 := hs 5 _ (by kernel_rfl) rfl
                    clear hs hd hl
                    go_simp
                    exact hk _ _ rfl (Below.refl _ _)
                  case o6 =>
                    intro AA W KK QQ hB hs hd hl hk
                    have sl7 := hs 7 _ (by kernel_rfl) rfl
                    clear hs hd hl
                    go_simp
                    exact hk _ _ rfl (Below.refl _ _)
                  case o7 =>
                    intro AA W KK QQ hB hs hd hl hk
                    obtain ⟨_, sl64, rfl⟩ := hd 5 64 (by kernel_rfl) rfl
                    obtain ⟨_, sl65, rfl⟩ := hd 6 65 (by kernel_rfl) rfl
                    clear hs hd hl
                    go_simp
                    exact hk _ _ rfl (Below.refl _ _)
                  case o8 =>
                    intro AA W KK QQ hB hs hd hl hk
                    obtain ⟨_, sl66, rfl⟩ := hd 7 66 (by kernel_rfl) rfl
                    clear hs hd hl
                    have hx0 := hB.cell (p := ⟨pl, ol + k * 4, none⟩) hpl
                    have hx1 := hB.cell (p := ⟨pl, ol + k * 4 + 1, none⟩) hpl
                    have hx2 := hB.cell (p := ⟨pl, ol + k * 4 + 2, none⟩) hpl
                    have hx3 := hB.cell (p := ⟨pl, ol + k * 4 + 3, none⟩) hpl
                    rw [u0] at hx0
                    rw [u1] at hx1
                    rw [u2] at hx2
                    rw [u3] at hx3
                    go_simp
                    exact hk _ _ rfl (Below.refl _ _)
                  case o9 =>
                    intro AA W KK QQ hB hs hd hl hk
                    obtain ⟨_, sl63, rfl⟩ := hd 4 63 (by kernel_rfl) rfl
                    obtain ⟨_, sl67, rfl⟩ := hd 8 67 (by kernel_rfl) rfl
                    clear hs hd hl
                    go_simp
                    exact hk _ _ rfl (Below.refl _ _)
                case fin =>
                  intro wh hB
                  refine fin_isv 59 rfl ?_
                  refine fin_isv 60 rfl ?_
                  refine fin_isv 61 rfl ?_
                  refine fin_isv 62 rfl ?_
                  refine fin_isv 63 rfl ?_
                  refine fin_isv 64 rfl ?_
                  refine fin_isv 65 rfl ?_
                  refine fin_isv 66 rfl ?_
                  refine fin_isv 67 rfl ?_
                  refine fin_isv 68 rfl ?_
                  refine frame118_59_60_61_62_63_64_65_66_67_68 _ _ _ _ _ _ _ _ _ _ _ _ _ _ _ _ _ _ _ _ _ _ _ _ _ _ _ _ _ _ _ _ _ _ _ _ _ _ _ _ _ _ _ _ _ _ _ _ _ _ _ _ _ _ _ _ _ _ _ _ _ _ _ _ _ _ _ _ _ _ _ _ _ _ _ _ _ _ _ _ _ _ _ _ _ _ _ _ _ _ _ _ _ _ _ _ _ _ _ _ _ _ _ _ _ _ _ _ _ _ _ _ _ _ _ _ _ _ _ _ _ _ _ _ _ _ _ _ ?_
                  have HBh := Lib.hid (HBn.out.trans (hB.mono HBn.out.size))
                  have HB2h := Lib.hid (HB23.out.trans (hB.mono HB23.out.size))
                  have cM1 := CME.out A3 c3 l3 wh HB2h.out ((HYS.out.below hB).more hB.size) hyn
                  rw [HMT.out] at cM1
                  have cM := Lib.hid cM1
                  have gg4 := (hB.cell (p := ⟨b, off + n * 5 + 4, none⟩) hbB).trans g4
                  clear hB cM1 g0 g1 g2 g3 g4 u0 u1 u2 u3 heq
                  go_wp2_with fail
                  refine cM.out.mono ?_
                  rintro e w5 ⟨rfl, hb5⟩
                  have HB5 := Lib.hid (HBh.out.trans (hb5.mono HBh.out.size))
                  clear hb5 cM gg4
                  go_wp2
                  go_roundw
                  case rel => exact ⟨n + 1, by omega, by go_num, by rw [HF.out], HB5⟩
                  case measure => simp [intOf]; omega
              · rw [decide_eq_false (show ¬ ((m.1, m.2.1, m.2.2.1, m.2.2.2) = (g.1, g.2.1, g.2.2.1, g.2.2.2)) from fun h => hm h)] at heq
                have HF := Lib.hid (show decide (g ∈ (L.take (n + 1)).map (·.1)) = decide (g ∈ (L.take n).map (·.1)) by
                  rw [HTn.out]
                  simp [Ne.symm hm])
                clear hmet hyS hm
                generalize decide (g ∈ (L.take n).map (·.1)) = bf at HF
                go_upto_region 15 with fail
                apply wp_region_facts (by kernel_rfl) [isv _, isv _, isv _, isv _, isv _, isv _, isv _, isv _, isv _, isv _] wk.heap.size wk (Nat.le_refl _) (Below.refl _ _).drew (by kernel_rfl) (by kernel_rfl) (by kernel_rfl) (And.intro (isv_mono _) (And.intro (isv_mono _) (And.intro (isv_mono _) (And.intro (isv_mono _) (And.intro (isv_mono _) (And.intro (isv_mono _) (And.intro (isv_mono _) (And.intro (isv_mono _) (And.intro (isv_mono _) (And.intro (isv_mono _) trivial)))))))))) ?steps (by rfl) ?fin
                case steps =>
                  refine (And.intro ?o0 (And.intro ?o1 (And.intro ?o2 (And.intro ?o3 (And.intro ?o4 (And.intro ?o5 (And.intro ?o6 (And.intro ?o7 (And.intro ?o8 (And.intro ?o9 trivial))))))))))
                  case o0 =>
                    intro AA W KK QQ hB hs hd hl hk
                    have sl0 := hs 0 _ (by kernel_rfl) rfl
                    clear hs hd hl
                    go_simp
                    exact hk _ _ rfl (Below.refl _ _)
                  case o1 =>
                    intro AA W KK QQ hB hs hd hl hk
                    have sl9 := hs 9 _ (by kernel_rfl) rfl
                    clear hs hd hl
                    go_simp
                    exact hk _ _ rfl (Below.refl _ _)
                  case o2 =>
                    intro AA W KK QQ hB hs hd hl hk
                    obtain ⟨_, sl59, rfl⟩ := hd 0 59 (by kernel_rfl) rfl
                    obtain ⟨_, sl60, rfl⟩ := hd 1 60 (by kernel_rfl) rfl
                    clear hs hd hl
                    go_simp
                    exact hk _ _ rfl (Below.refl _ _)
                  case o3 =>
                    intro AA W KK QQ hB hs hd hl hk
                    obtain ⟨_, sl61, rfl⟩ := hd 2 61 (by kernel_rfl) rfl
                    clear hs hd hl
                    go_simp
                    exact hk _ _ rfl (Below.refl _ _)
                  case o4 =>
                    intro AA W KK QQ hB hs hd hl hk
                    obtain ⟨_, sl62, rfl⟩ := hd 3 62 (by kernel_rfl) rfl
                    clear hs hd hl
                    have hx0 := hB.cell (p := ⟨b, off + n * 5, none⟩) hbB
                    have hx1 := hB.cell (p := ⟨b, off + n * 5 + 1, none⟩) hbB
                    have hx2 := hB.cell (p := ⟨b, off + n * 5 + 2, none⟩) hbB
                    have hx3 := hB.cell (p := ⟨b, off + n * 5 + 3, none⟩) hbB
                    rw [g0] at hx0
                    rw [g1] at hx1
                    rw [g2] at hx2
                    rw [g3] at hx3
                    go_simp
                    exact hk _ _ rfl (Below.refl _ _)
                  case o5 =>
                    intro AA W KK QQ hB hs hd hl hk
                    have sl5 := hs 5 _ (by kernel_rfl) rfl
                    clear hs hd hl
                    go_simp
                    exact hk _ _ rfl (Below.refl _ _)
                  case o6 =>
                    intro AA W KK QQ hB hs hd hl hk
                    have sl7 := hs 7 _ (by kernel_rfl) rfl
                    clear hs hd hl
                    go_simp
                    exact hk _ _ rfl (Below.refl _ _)
                  case o7 =>
                    intro AA W KK QQ hB hs hd hl hk
                    obtain ⟨_, sl64, rfl⟩ := hd 5 64 (by kernel_rfl) rfl
                    obtain ⟨_, sl65, rfl⟩ := hd 6 65 (by kernel_rfl) rfl
                    clear hs hd hl
                    go_simp
                    exact hk _ _ rfl (Below.refl _ _)
                  case o8 =>
                    intro AA W KK QQ hB hs hd hl hk
                    obtain ⟨_, sl66, rfl⟩ := hd 7 66 (by kernel_rfl) rfl
                    clear hs hd hl
                    have hx0 := hB.cell (p := ⟨pl, ol + k * 4, none⟩) hpl
                    have hx1 := hB.cell (p := ⟨pl, ol + k * 4 + 1, none⟩) hpl
                    have hx2 := hB.cell (p := ⟨pl, ol + k * 4 + 2, none⟩) hpl
                    have hx3 := hB.cell (p := ⟨pl, ol + k * 4 + 3, none⟩) hpl
                    rw [u0] at hx0
                    rw [u1] at hx1
                    rw [u2] at hx2
                    rw [u3] at hx3
                    go_simp
                    exact hk _ _ rfl (Below.refl _ _)
                  case o9 =>
                    intro AA W KK QQ hB hs hd hl hk
                    obtain ⟨_, sl63, rfl⟩ := hd 4 63 (by kernel_rfl) rfl
                    obtain ⟨_, sl67, rfl⟩ := hd 8 67 (by kernel_rfl) rfl
                    clear hs hd hl
                    go_simp
                    exact hk _ _ rfl (Below.refl _ _)
                case fin =>
                  intro wh hB
                  refine fin_isv 59 rfl ?_
                  refine fin_isv 60 rfl ?_
                  refine fin_isv 61 rfl ?_
                  refine fin_isv 62 rfl ?_
                  refine fin_isv 63 rfl ?_
                  refine fin_isv 64 rfl ?_
                  refine fin_isv 65 rfl ?_
                  refine fin_isv 66 rfl ?_
                  refine fin_isv 67 rfl ?_
                  refine fin_isv 68 rfl ?_
                  refine frame118_59_60_61_62_63_64_65_66_67_68 _ _ _ _ _ _ _ _ _ _ _ _ _ _ _ _ _ _ _ _ _ _ _ _ _ _ _ _ _ _ _ _ _ _ _ _ _ _ _ _ _ _ _ _ _ _ _ _ _ _ _ _ _ _ _ _ _ _ _ _ _ _ _ _ _ _ _ _ _ _ _ _ _ _ _ _ _ _ _ _ _ _ _ _ _ _ _ _ _ _ _ _ _ _ _ _ _ _ _ _ _ _ _ _ _ _ _ _ _ _ _ _ _ _ _ _ _ _ _ _ _ _ _ _ _ _ _ _ ?_
                  have HBh := Lib.hid (HBn.out.trans (hB.mono HBn.out.size))
                  clear hB g0 g1 g2 g3 g4 u0 u1 u2 u3 heq
                  go_wp2
                  go_roundw
                  case rel => exact ⟨n + 1, by omega, by go_num, by rw [HF.out], HBh⟩
                  case measure => simp [intOf]; omega
            · obtain rfl : n = L.length := by omega
              have hft : decide (g ∈ (L.take L.length).map (·.1)) = true := decide_eq_true (by
                rw [List.take_length]
                have h := HOG.out.inR
                unfold regW at h
                rw [List.map_map] at h
                exact h)
              rw [hft]
              obtain ⟨q0, q1, q2, q3, q4⟩ := manC (m := rm) (A := A0) (n := l0.length) (c := c0) (((Q3.out.keep HB.out).keep HBn.out))
              have hwz : w.heap.size < wk.heap.size := ((Q3.out.keep HB.out).keep HBn.out).lt
              have cAs := Lib.hid (fun W (hW : Below wk.heap.size wk W) => show Calls Tryd.prog 12 _ W (fun e w' => e = .returned (.bool true) ∧ Below W.heap.size W w') by
                have h := cAs0.out g W (HBk.out.trans (hW.mono HBk.out.size))
                rw [HOG.out.ask] at h
                exact h)
              have hpr : (g.1 == rm.1) = false := beq_eq_false_iff_ne.2 HOG.out.pth
              have hnn : ¬ (L.length : Int) < (L.length : Int) := by omega
              obtain ⟨wj, hwj⟩ : ∃ wj, wj = wk := ⟨_, rfl⟩
              subst hwj
              clear hft hgk hA2
              by_cases hbig : 1 < k
              · have hbi : (1 : Int) < (k : Int) := by omega
                obtain ⟨j, hj⟩ : ∃ j, j + 1 = k := ⟨k - 1, by omega⟩
                have hjl : j < bl.length := by omega
                have hji : (j : Int) < (bl.length : Int) := by omega
                have hj0 : (0 : Int) ≤ (j : Int) := by omega
                have hjw : IntKind.i64.wrap ((k : Int) - 1) = (j : Int) := by simp [IntKind.wrap, IntKind.bits, IntKind.signed]; omega
                have hlt2 := HOG.out.lt j hjl hj (by omega)
                obtain ⟨pl', ol', hA2, _, v0, _, _, _⟩ := Sk.out.mod hjl
                obtain ⟨rfl, rfl⟩ : pl = pl' ∧ ol = ol' := by injection hA2 with h; injection h with h1 h2; exact ⟨h1, h2⟩
                generalize bl[j] = mj at v0 hlt2
                clear hA2 hj
                go_upto_region 17 with fail
                apply wp_region_facts (by kernel_rfl) [isv _, isv _, isv _, isv _, isv _, isv _, isv _, isv _, isv _, isv _, isv _, isv _, isv _, isv _, isv _, isv _, isv _, isv _, isv _, isv _, isv _, isv _, isv _, isv _, isv _, isv _, isv _, isv _, isv _, isv _, isv _, isv _, isv _, isv _, isv _, isv _, isv _, isv _, isv _, isv _, isv _] wj.heap.size wj (Nat.le_refl _) (Below.refl _ _).drew (by kernel_rfl) (by kernel_rfl) (by kernel_rfl) (And.intro (isv_mono _) (And.intro (isv_mono _) (And.intro (isv_mono _) (And.intro (isv_mono _) (And.intro (isv_mono _) (And.intro (isv_mono _) (And.intro (isv_mono _) (And.intro (isv_mono _) (And.intro (isv_mono _) (And.intro (isv_mono _) (And.intro (isv_mono _) (And.intro (isv_mono _) (And.intro (isv_mono _) (And.intro (isv_mono _) (And.intro (isv_mono _) (And.intro (isv_mono _) (And.intro (isv_mono _) (And.intro (isv_mono _) (And.intro (isv_mono _) (And.intro (isv_mono _) (And.intro (isv_mono _) (And.intro (isv_mono _) (And.intro (isv_mono _) (And.intro (isv_mono _) (And.intro (isv_mono _) (And.intro (isv_mono _) (And.intro (isv_mono _) (And.intro (isv_mono _) (And.intro (isv_mono _) (And.intro (isv_mono _) (And.intro (isv_mono _) (And.intro (isv_mono _) (And.intro (isv_mono _) (And.intro (isv_mono _) (And.intro (isv_mono _) (And.intro (isv_mono _) (And.intro (isv_mono _) (And.intro (isv_mono _) (And.intro (isv_mono _) (And.intro (isv_mono _) (And.intro (isv_mono _) trivial))))))))))))))))))))))))))))))))))))))))) ?steps (by rfl) ?fin
                case steps =>
                  refine (And.intro ?o0 (And.intro ?o1 (And.intro ?o2 (And.intro ?o3 (And.intro ?o4 (And.intro ?o5 (And.intro ?o6 (And.intro ?o7 (And.intro ?o8 (And.intro ?o9 (And.intro ?o10 (And.intro ?o11 (And.intro ?o12 (And.intro ?o13 (And.intro ?o14 (And.intro ?o15 (And.intro ?o16 (And.intro ?o17 (And.intro ?o18 (And.intro ?o19 (And.intro ?o20 (And.intro ?o21 (And.intro ?o22 (And.intro ?o23 (And.intro ?o24 (And.intro ?o25 (And.intro ?o26 (And.intro ?o27 (And.intro ?o28 (And.intro ?o29 (And.intro ?o30 (And.intro ?o31 (And.intro ?o32 (And.intro ?o33 (And.intro ?o34 (And.intro ?o35 (And.intro ?o36 (And.intro ?o37 (And.intro ?o38 (And.intro ?o39 (And.intro ?o40 trivial)))))))))))))))))))))))))))))))))))))))))
                  case o0 =>
                    intro AA W KK QQ hB hs hd hl hk
                    have sl8 := hs 8 _ (by kernel_rfl) rfl
                    clear hs hd hl
                    go_simp
                    exact hk _ _ rfl (Below.refl _ _)
                  case o1 =>
                    intro AA W KK QQ hB hs hd hl hk
                    obtain ⟨_, sl76, rfl⟩ := hd 0 76 (by kernel_rfl) rfl
                    clear hs hd hl
                    go_simp
                    exact hk _ _ rfl (Below.refl _ _)
                  case o2 =>
                    intro AA W KK QQ hB hs hd hl hk
                    obtain ⟨_, sl77, rfl⟩ := hd 1 77 (by kernel_rfl) rfl
                    clear hs hd hl
                    go_simp
                    exact hk _ _ rfl (Below.refl _ _)
                  case o3 =>
                    intro AA W KK QQ hB hs hd hl hk
                    have sl0 := hs 0 _ (by kernel_rfl) rfl
                    obtain ⟨_, sl78, rfl⟩ := hd 2 78 (by kernel_rfl) rfl
                    clear hs hd hl
                    refine ⟨_, _, rfl, sl78, ?_⟩
                    first
                      | (change Oper.wp _ _ _ _ _ _; go_simp; exact hk _ _ rfl (Below.refl _ _))
                      | exact rfl
                  case o4 =>
                    intro AA W KK QQ hB hs hd hl hk
                    have sl3 := hs 3 _ (by kernel_rfl) rfl
                    obtain ⟨_, sl78, rfl⟩ := hd 2 78 (by kernel_rfl) rfl
                    clear hs hd hl
                    have hx0 := hB.cell (p := ⟨w.heap.size, 0, none⟩) hwz
                    have hx1 := hB.cell (p := ⟨w.heap.size, 1, none⟩) hwz
                    have hx2 := hB.cell (p := ⟨w.heap.size, 2, none⟩) hwz
                    have hx3 := hB.cell (p := ⟨w.heap.size, 3, none⟩) hwz
                    have hx4 := hB.cell (p := ⟨w.heap.size, 4, none⟩) hwz
                    rw [q0] at hx0
                    rw [q1] at hx1
                    rw [q2] at hx2
                    rw [q3] at hx3
                    rw [q4] at hx4
                    refine ⟨_, _, rfl, sl78, ?_⟩
                    first
                      | (change Oper.wp _ _ _ _ _ _; go_simp; exact hk _ _ rfl (Below.refl _ _))
                      | exact rfl
                  case o5 =>
                    intro AA W KK QQ hB hs hd hl hk
                    have sl5 := hs 5 _ (by kernel_rfl) rfl
                    obtain ⟨_, sl78, rfl⟩ := hd 2 78 (by kernel_rfl) rfl
                    clear hs hd hl
                    refine ⟨_, _, rfl, sl78, ?_⟩
                    first
                      | (change Oper.wp _ _ _ _ _ _; go_simp; exact hk _ _ rfl (Below.refl _ _))
                      | exact rfl
                  case o6 =>
                    intro AA W KK QQ hB hs hd hl hk
                    have sl7 := hs 7 _ (by kernel_rfl) rfl
                    obtain ⟨_, sl78, rfl⟩ := hd 2 78 (by kernel_rfl) rfl
                    clear hs hd hl
                    refine ⟨_, _, rfl, sl78, ?_⟩
                    first
                      | (change Oper.wp _ _ _ _ _ _; go_simp; exact hk _ _ rfl (Below.refl _ _))
                      | exact rfl
                  case o7 =>
                    intro AA W KK QQ hB hs hd hl hk
                    obtain ⟨_, sl78, rfl⟩ := hd 2 78 (by kernel_rfl) rfl
                    obtain ⟨_, sl81, rfl⟩ := hd 5 81 (by kernel_rfl) rfl
                    obtain ⟨_, sl82, rfl⟩ := hd 6 82 (by kernel_rfl) rfl
                    clear hs hd hl
                    refine ⟨_, _, rfl, sl78, ?_⟩
                    first
                      | (change Oper.wp _ _ _ _ _ _; go_simp; exact hk _ _ rfl (Below.refl _ _))
                      | exact rfl
                  case o8 =>
                    intro AA W KK QQ hB hs hd hl hk
                    obtain ⟨_, sl78, rfl⟩ := hd 2 78 (by kernel_rfl) rfl
                    obtain ⟨_, sl83, rfl⟩ := hd 7 83 (by kernel_rfl) rfl
                    clear hs hd hl
                    have hx0 := hB.cell (p := ⟨pl, ol + k * 4, none⟩) hpl
                    have hx1 := hB.cell (p := ⟨pl, ol + k * 4 + 1, none⟩) hpl
                    have hx2 := hB.cell (p := ⟨pl, ol + k * 4 + 2, none⟩) hpl
                    have hx3 := hB.cell (p := ⟨pl, ol + k * 4 + 3, none⟩) hpl
                    rw [u0] at hx0
                    rw [u1] at hx1
                    rw [u2] at hx2
                    rw [u3] at hx3
                    refine ⟨_, _, rfl, sl78, ?_⟩
                    first
                      | (change Oper.wp _ _ _ _ _ _; go_simp; exact hk _ _ rfl (Below.refl _ _))
                      | exact rfl
                  case o9 =>
                    intro AA W KK QQ hB hs hd hl hk
                    obtain ⟨_, sl78, rfl⟩ := hd 2 78 (by kernel_rfl) rfl
                    obtain ⟨_, sl79, rfl⟩ := hd 3 79 (by kernel_rfl) rfl
                    obtain ⟨_, sl80, rfl⟩ := hd 4 80 (by kernel_rfl) rfl
                    obtain ⟨_, sl84, rfl⟩ := hd 8 84 (by kernel_rfl) rfl
                    clear hs hd hl
                    refine ⟨_, _, rfl, sl78, ?_⟩
                    change Oper.wp _ _ _ _ _ _
                    go_simp
                    refine (cAs.out W hB).mono ?_
                    rintro e W2 ⟨rfl, hb2⟩
                    exact hk _ _ rfl hb2
                  case o10 =>
                    intro AA W KK QQ hB hs hd hl hk
                    obtain ⟨_, sl78, rfl⟩ := hd 2 78 (by kernel_rfl) rfl
                    obtain ⟨_, sl85, rfl⟩ := hd 9 85 (by kernel_rfl) rfl
                    clear hs hd hl
                    refine ⟨_, _, rfl, sl78, ?_⟩
                    first
                      | (change Oper.wp _ _ _ _ _ _; go_simp; exact hk _ _ rfl (Below.refl _ _))
                      | exact rfl
                  case o11 =>
                    intro AA W KK QQ hB hs hd hl hk
                    obtain ⟨_, sl78, rfl⟩ := hd 2 78 (by kernel_rfl) rfl
                    obtain ⟨_, sl86, rfl⟩ := hd 10 86 (by kernel_rfl) rfl
                    clear hs hd hl
                    go_simp
                    exact hk _ _ rfl (Below.refl _ _)
                  case o12 =>
                    intro AA W KK QQ hB hs hd hl hk
                    obtain ⟨_, sl87, rfl⟩ := hd 11 87 (by kernel_rfl) rfl
                    clear hs hd hl
                    go_simp
                    exact hk _ _ rfl (Below.refl _ _)
                  case o13 =>
                    intro AA W KK QQ hB hs hd hl hk
                    have sl5 := hs 5 _ (by kernel_rfl) rfl
                    obtain ⟨_, sl88, rfl⟩ := hd 12 88 (by kernel_rfl) rfl
                    clear hs hd hl
                    refine ⟨_, _, rfl, sl88, ?_⟩
                    first
                      | (change Oper.wp _ _ _ _ _ _; go_simp; exact hk _ _ rfl (Below.refl _ _))
                      | exact rfl
                  case o14 =>
                    intro AA W KK QQ hB hs hd hl hk
                    have sl7 := hs 7 _ (by kernel_rfl) rfl
                    obtain ⟨_, sl88, rfl⟩ := hd 12 88 (by kernel_rfl) rfl
                    clear hs hd hl
                    refine ⟨_, _, rfl, sl88, ?_⟩
                    first
                      | (change Oper.wp _ _ _ _ _ _; go_simp; exact hk _ _ rfl (Below.refl _ _))
                      | exact rfl
                  case o15 =>
                    intro AA W KK QQ hB hs hd hl hk
                    obtain ⟨_, sl88, rfl⟩ := hd 12 88 (by kernel_rfl) rfl
                    obtain ⟨_, sl89, rfl⟩ := hd 13 89 (by kernel_rfl) rfl
                    obtain ⟨_, sl90, rfl⟩ := hd 14 90 (by kernel_rfl) rfl
                    clear hs hd hl
                    refine ⟨_, _, rfl, sl88, ?_⟩
                    first
                      | (change Oper.wp _ _ _ _ _ _; go_simp; exact hk _ _ rfl (Below.refl _ _))
                      | exact rfl
                  case o16 =>
                    intro AA W KK QQ hB hs hd hl hk
                    obtain ⟨_, sl88, rfl⟩ := hd 12 88 (by kernel_rfl) rfl
                    obtain ⟨_, sl91, rfl⟩ := hd 15 91 (by kernel_rfl) rfl
                    clear hs hd hl
                    refine ⟨_, _, rfl, sl88, ?_⟩
                    first
                      | (change Oper.wp _ _ _ _ _ _; go_simp; exact hk _ _ rfl (Below.refl _ _))
                      | exact rfl
                  case o17 =>
                    intro AA W KK QQ hB hs hd hl hk
                    obtain ⟨_, sl88, rfl⟩ := hd 12 88 (by kernel_rfl) rfl
                    obtain ⟨_, sl92, rfl⟩ := hd 16 92 (by kernel_rfl) rfl
                    clear hs hd hl
                    have hx0 := hB.cell (p := ⟨pl, ol + k * 4, none⟩) hpl
                    rw [u0] at hx0
                    refine ⟨_, _, rfl, sl88, ?_⟩
                    first
                      | (change Oper.wp _ _ _ _ _ _; go_simp; exact hk _ _ rfl (Below.refl _ _))
                      | exact rfl
                  case o18 =>
                    intro AA W KK QQ hB hs hd hl hk
                    have sl3 := hs 3 _ (by kernel_rfl) rfl
                    obtain ⟨_, sl88, rfl⟩ := hd 12 88 (by kernel_rfl) rfl
                    clear hs hd hl
                    refine ⟨_, _, rfl, sl88, ?_⟩
                    first
                      | (change Oper.wp _ _ _ _ _ _; go_simp; exact hk _ _ rfl (Below.refl _ _))
                      | exact rfl
                  case o19 =>
                    intro AA W KK QQ hB hs hd hl hk
                    obtain ⟨_, sl88, rfl⟩ := hd 12 88 (by kernel_rfl) rfl
                    obtain ⟨_, sl94, rfl⟩ := hd 18 94 (by kernel_rfl) rfl
                    clear hs hd hl
                    refine ⟨_, _, rfl, sl88, ?_⟩
                    first
                      | (change Oper.wp _ _ _ _ _ _; go_simp; exact hk _ _ rfl (Below.refl _ _))
                      | exact rfl
                  case o20 =>
                    intro AA W KK QQ hB hs hd hl hk
                    obtain ⟨_, sl88, rfl⟩ := hd 12 88 (by kernel_rfl) rfl
                    obtain ⟨_, sl95, rfl⟩ := hd 19 95 (by kernel_rfl) rfl
                    clear hs hd hl
                    have hx0 := hB.cell (p := ⟨w.heap.size, 0, none⟩) hwz
                    rw [q0] at hx0
                    refine ⟨_, _, rfl, sl88, ?_⟩
                    first
                      | (change Oper.wp _ _ _ _ _ _; go_simp; exact hk _ _ rfl (Below.refl _ _))
                      | exact rfl
                  case o21 =>
                    intro AA W KK QQ hB hs hd hl hk
                    obtain ⟨_, sl88, rfl⟩ := hd 12 88 (by kernel_rfl) rfl
                    obtain ⟨_, sl93, rfl⟩ := hd 17 93 (by kernel_rfl) rfl
                    obtain ⟨_, sl96, rfl⟩ := hd 20 96 (by kernel_rfl) rfl
                    clear hs hd hl
                    refine ⟨_, _, rfl, sl88, ?_⟩
                    first
                      | (change Oper.wp _ _ _ _ _ _; go_simp; exact hk _ _ rfl (Below.refl _ _))
                      | exact rfl
                  case o22 =>
                    intro AA W KK QQ hB hs hd hl hk
                    obtain ⟨_, sl88, rfl⟩ := hd 12 88 (by kernel_rfl) rfl
                    obtain ⟨_, sl97, rfl⟩ := hd 21 97 (by kernel_rfl) rfl
                    clear hs hd hl
                    go_simp
                    exact hk _ _ rfl (Below.refl _ _)
                  case o23 =>
                    intro AA W KK QQ hB hs hd hl hk
                    obtain ⟨_, sl98, rfl⟩ := hd 22 98 (by kernel_rfl) rfl
                    clear hs hd hl
                    go_simp
                    exact hk _ _ rfl (Below.refl _ _)
                  case o24 =>
                    intro AA W KK QQ hB hs hd hl hk
                    have sl7 := hs 7 _ (by kernel_rfl) rfl
                    obtain ⟨_, sl99, rfl⟩ := hd 23 99 (by kernel_rfl) rfl
                    clear hs hd hl
                    refine ⟨_, _, rfl, sl99, ?_⟩
                    first
                      | (change Oper.wp _ _ _ _ _ _; go_simp; exact hk _ _ rfl (Below.refl _ _))
                      | exact rfl
                  case o25 =>
                    intro AA W KK QQ hB hs hd hl hk
                    obtain ⟨_, sl99, rfl⟩ := hd 23 99 (by kernel_rfl) rfl
                    obtain ⟨_, sl100, rfl⟩ := hd 24 100 (by kernel_rfl) rfl
                    clear hs hd hl
                    refine ⟨_, _, rfl, sl99, ?_⟩
                    first
                      | (change Oper.wp _ _ _ _ _ _; go_simp; exact hk _ _ rfl (Below.refl _ _))
                      | exact rfl
                  case o26 =>
                    intro AA W KK QQ hB hs hd hl hk
                    obtain ⟨_, sl99, rfl⟩ := hd 23 99 (by kernel_rfl) rfl
                    obtain ⟨_, sl101, rfl⟩ := hd 25 101 (by kernel_rfl) rfl
                    clear hs hd hl
                    refine ⟨_, _, rfl, sl99, ?_⟩
                    first
                      | (change Oper.wp _ _ _ _ _ _; go_simp; exact hk _ _ rfl (Below.refl _ _))
                      | exact rfl
                  case o27 =>
                    intro AA W KK QQ hB hs hd hl hk
                    have sl5 := hs 5 _ (by kernel_rfl) rfl
                    obtain ⟨_, sl102, rfl⟩ := hd 26 102 (by kernel_rfl) rfl
                    clear hs hd hl
                    refine ⟨_, _, rfl, sl102, ?_⟩
                    first
                      | (change Oper.wp _ _ _ _ _ _; go_simp; exact hk _ _ rfl (Below.refl _ _))
                      | exact rfl
                  case o28 =>
                    intro AA W KK QQ hB hs hd hl hk
                    have sl7 := hs 7 _ (by kernel_rfl) rfl
                    obtain ⟨_, sl102, rfl⟩ := hd 26 102 (by kernel_rfl) rfl
                    clear hs hd hl
                    refine ⟨_, _, rfl, sl102, ?_⟩
                    first
                      | (change Oper.wp _ _ _ _ _ _; go_simp; exact hk _ _ rfl (Below.refl _ _))
                      | exact rfl
                  case o29 =>
                    intro AA W KK QQ hB hs hd hl hk
                    obtain ⟨_, sl102, rfl⟩ := hd 26 102 (by kernel_rfl) rfl
                    obtain ⟨_, sl104, rfl⟩ := hd 28 104 (by kernel_rfl) rfl
                    clear hs hd hl
                    refine ⟨_, _, rfl, sl102, ?_⟩
                    first
                      | (change Oper.wp _ _ _ _ _ _; go_simp; exact hk _ _ rfl (Below.refl _ _))
                      | exact rfl
                  case o30 =>
                    intro AA W KK QQ hB hs hd hl hk
                    obtain ⟨_, sl102, rfl⟩ := hd 26 102 (by kernel_rfl) rfl
                    obtain ⟨_, sl103, rfl⟩ := hd 27 103 (by kernel_rfl) rfl
                    obtain ⟨_, sl105, rfl⟩ := hd 29 105 (by kernel_rfl) rfl
                    clear hs hd hl
                    refine ⟨_, _, rfl, sl102, ?_⟩
                    first
                      | (change Oper.wp _ _ _ _ _ _; go_simp; exact hk _ _ rfl (Below.refl _ _))
                      | exact rfl
                  case o31 =>
                    intro AA W KK QQ hB hs hd hl hk
                    obtain ⟨_, sl102, rfl⟩ := hd 26 102 (by kernel_rfl) rfl
                    obtain ⟨_, sl106, rfl⟩ := hd 30 106 (by kernel_rfl) rfl
                    clear hs hd hl
                    refine ⟨_, _, rfl, sl102, ?_⟩
                    first
                      | (change Oper.wp _ _ _ _ _ _; go_simp; exact hk _ _ rfl (Below.refl _ _))
                      | exact rfl
                  case o32 =>
                    intro AA W KK QQ hB hs hd hl hk
                    obtain ⟨_, sl102, rfl⟩ := hd 26 102 (by kernel_rfl) rfl
                    obtain ⟨_, sl107, rfl⟩ := hd 31 107 (by kernel_rfl) rfl
                    clear hs hd hl
                    have hx0 := hB.cell (p := ⟨pl, ol + j * 4, none⟩) hpl
                    rw [v0] at hx0
                    refine ⟨_, _, rfl, sl102, ?_⟩
                    first
                      | (change Oper.wp _ _ _ _ _ _; go_simp; exact hk _ _ rfl (Below.refl _ _))
                      | exact rfl
                  case o33 =>
                    intro AA W KK QQ hB hs hd hl hk
                    have sl5 := hs 5 _ (by kernel_rfl) rfl
                    obtain ⟨_, sl102, rfl⟩ := hd 26 102 (by kernel_rfl) rfl
                    clear hs hd hl
                    refine ⟨_, _, rfl, sl102, ?_⟩
                    first
                      | (change Oper.wp _ _ _ _ _ _; go_simp; exact hk _ _ rfl (Below.refl _ _))
                      | exact rfl
                  case o34 =>
                    intro AA W KK QQ hB hs hd hl hk
                    have sl7 := hs 7 _ (by kernel_rfl) rfl
                    obtain ⟨_, sl102, rfl⟩ := hd 26 102 (by kernel_rfl) rfl
                    clear hs hd hl
                    refine ⟨_, _, rfl, sl102, ?_⟩
                    first
                      | (change Oper.wp _ _ _ _ _ _; go_simp; exact hk _ _ rfl (Below.refl _ _))
                      | exact rfl
                  case o35 =>
                    intro AA W KK QQ hB hs hd hl hk
                    obtain ⟨_, sl102, rfl⟩ := hd 26 102 (by kernel_rfl) rfl
                    obtain ⟨_, sl109, rfl⟩ := hd 33 109 (by kernel_rfl) rfl
                    obtain ⟨_, sl110, rfl⟩ := hd 34 110 (by kernel_rfl) rfl
                    clear hs hd hl
                    refine ⟨_, _, rfl, sl102, ?_⟩
                    first
                      | (change Oper.wp _ _ _ _ _ _; go_simp; exact hk _ _ rfl (Below.refl _ _))
                      | exact rfl
                  case o36 =>
                    intro AA W KK QQ hB hs hd hl hk
                    obtain ⟨_, sl102, rfl⟩ := hd 26 102 (by kernel_rfl) rfl
                    obtain ⟨_, sl111, rfl⟩ := hd 35 111 (by kernel_rfl) rfl
                    clear hs hd hl
                    refine ⟨_, _, rfl, sl102, ?_⟩
                    first
                      | (change Oper.wp _ _ _ _ _ _; go_simp; exact hk _ _ rfl (Below.refl _ _))
                      | exact rfl
                  case o37 =>
                    intro AA W KK QQ hB hs hd hl hk
                    obtain ⟨_, sl102, rfl⟩ := hd 26 102 (by kernel_rfl) rfl
                    obtain ⟨_, sl112, rfl⟩ := hd 36 112 (by kernel_rfl) rfl
                    clear hs hd hl
                    have hx0 := hB.cell (p := ⟨pl, ol + k * 4, none⟩) hpl
                    rw [u0] at hx0
                    refine ⟨_, _, rfl, sl102, ?_⟩
                    first
                      | (change Oper.wp _ _ _ _ _ _; go_simp; exact hk _ _ rfl (Below.refl _ _))
                      | exact rfl
                  case o38 =>
                    intro AA W KK QQ hB hs hd hl hk
                    obtain ⟨_, sl102, rfl⟩ := hd 26 102 (by kernel_rfl) rfl
                    obtain ⟨_, sl108, rfl⟩ := hd 32 108 (by kernel_rfl) rfl
                    obtain ⟨_, sl113, rfl⟩ := hd 37 113 (by kernel_rfl) rfl
                    clear hs hd hl
                    refine ⟨_, _, rfl, sl102, ?_⟩
                    first
                      | (change Oper.wp _ _ _ _ _ _; go_simp; exact hk _ _ rfl (Below.refl _ _))
                      | exact rfl
                  case o39 =>
                    intro AA W KK QQ hB hs hd hl hk
                    obtain ⟨_, sl99, rfl⟩ := hd 23 99 (by kernel_rfl) rfl
                    obtain ⟨_, sl102, rfl⟩ := hd 26 102 (by kernel_rfl) rfl
                    obtain ⟨_, sl114, rfl⟩ := hd 38 114 (by kernel_rfl) rfl
                    clear hs hd hl
                    refine ⟨_, _, rfl, sl99, ?_⟩
                    first
                      | (change Oper.wp _ _ _ _ _ _; go_simp; exact hk _ _ rfl (Below.refl _ _))
                      | exact rfl
                  case o40 =>
                    intro AA W KK QQ hB hs hd hl hk
                    obtain ⟨_, sl99, rfl⟩ := hd 23 99 (by kernel_rfl) rfl
                    obtain ⟨_, sl115, rfl⟩ := hd 39 115 (by kernel_rfl) rfl
                    clear hs hd hl
                    go_simp
                    exact hk _ _ rfl (Below.refl _ _)
                case fin =>
                  intro wh hB
                  refine fin_isv 76 rfl ?_
                  refine fin_isv 77 rfl ?_
                  refine fin_isv 78 rfl ?_
                  refine fin_isv 79 rfl ?_
                  refine fin_isv 80 rfl ?_
                  refine fin_isv 81 rfl ?_
                  refine fin_isv 82 rfl ?_
                  refine fin_isv 83 rfl ?_
                  refine fin_isv 84 rfl ?_
                  refine fin_isv 85 rfl ?_
                  refine fin_isv 86 rfl ?_
                  refine fin_isv 87 rfl ?_
                  refine fin_isv 88 rfl ?_
                  refine fin_isv 89 rfl ?_
                  refine fin_isv 90 rfl ?_
                  refine fin_isv 91 rfl ?_
                  refine fin_isv 92 rfl ?_
                  refine fin_isv 93 rfl ?_
                  refine fin_isv 94 rfl ?_
                  refine fin_isv 95 rfl ?_
                  refine fin_isv 96 rfl ?_
                  refine fin_isv 97 rfl ?_
                  refine fin_isv 98 rfl ?_
                  refine fin_isv 99 rfl ?_
                  refine fin_isv 100 rfl ?_
                  refine fin_isv 101 rfl ?_
                  refine fin_isv 102 rfl ?_
                  refine fin_isv 103 rfl ?_
                  refine fin_isv 104 rfl ?_
                  refine fin_isv 105 rfl ?_
                  refine fin_isv 106 rfl ?_
                  refine fin_isv 107 rfl ?_
                  refine fin_isv 108 rfl ?_
                  refine fin_isv 109 rfl ?_
                  refine fin_isv 110 rfl ?_
                  refine fin_isv 111 rfl ?_
                  refine fin_isv 112 rfl ?_
                  refine fin_isv 113 rfl ?_
                  refine fin_isv 114 rfl ?_
                  refine fin_isv 115 rfl ?_
                  refine fin_isv 116 rfl ?_
                  refine frame118_1d74067c6e _ _ _ _ _ _ _ _ _ _ _ _ _ _ _ _ _ _ _ _ _ _ _ _ _ _ _ _ _ _ _ _ _ _ _ _ _ _ _ _ _ _ _ _ _ _ _ _ _ _ _ _ _ _ _ _ _ _ _ _ _ _ _ _ _ _ _ _ _ _ _ _ _ _ _ _ _ _ _ _ _ _ _ _ _ _ _ _ _ _ _ _ _ _ _ _ _ _ _ _ _ _ _ _ _ _ _ _ _ _ _ _ _ _ _ _ _ _ _ _ _ _ _ _ _ _ _ _ _ _ _ _ _ _ _ _ _ _ _ _ _ _ _ _ _ _ _ _ _ _ _ _ _ _ _ _ _ _ _ ?_
                  have HBh := Lib.hid (HB.out.trans ((HBn.out.trans (hB.mono HBn.out.size)).mono HB.out.size))
                  clear hB q0 q1 q2 q3 q4 u0 u1 u2 u3 v0
                  go_wp2
                  go_roundw
                  case rel => exact ⟨k + 1, by omega, by omega, by go_num, HBh⟩
                  case measure => simp [intOf]; omega
              · have hbi : ¬ (1 : Int) < (k : Int) := by omega
                clear hbig
                go_upto_region 17 with fail
                apply wp_region_facts (by kernel_rfl) [isv _, isv _, isv _, isv _, isv _, isv _, isv _, isv _, isv _, isv _, isv _, isv _, isv _, isv _, isv _, isv _, isv _, isv _, isv _, isv _, isv _, isv _, isv _, isv _, isv _, isv _, isv _, isv _, isv _, isv _, isv _, isv _, isv _, isv _, isv _, isv _, isv _, isv _, isv _, isv _, isv _] wj.heap.size wj (Nat.le_refl _) (Below.refl _ _).drew (by kernel_rfl) (by kernel_rfl) (by kernel_rfl) (And.intro (isv_mono _) (And.intro (isv_mono _) (And.intro (isv_mono _) (And.intro (isv_mono _) (And.intro (isv_mono _) (And.intro (isv_mono _) (And.intro (isv_mono _) (And.intro (isv_mono _) (And.intro (isv_mono _) (And.intro (isv_mono _) (And.intro (isv_mono _) (And.intro (isv_mono _) (And.intro (isv_mono _) (And.intro (isv_mono _) (And.intro (isv_mono _) (And.intro (isv_mono _) (And.intro (isv_mono _) (And.intro (isv_mono _) (And.intro (isv_mono _) (And.intro (isv_mono _) (And.intro (isv_mono _) (And.intro (isv_mono _) (And.intro (isv_mono _) (And.intro (isv_mono _) (And.intro (isv_mono _) (And.intro (isv_mono _) (And.intro (isv_mono _) (And.intro (isv_mono _) (And.intro (isv_mono _) (And.intro (isv_mono _) (And.intro (isv_mono _) (And.intro (isv_mono _) (And.intro (isv_mono _) (And.intro (isv_mono _) (And.intro (isv_mono _) (And.intro (isv_mono _) (And.intro (isv_mono _) (And.intro (isv_mono _) (And.intro (isv_mono _) (And.intro (isv_mono _) (And.intro (isv_mono _) trivial))))))))))))))))))))))))))))))))))))))))) ?steps (by rfl) ?fin
                case steps =>
                  refine (And.intro ?o0 (And.intro ?o1 (And.intro ?o2 (And.intro ?o3 (And.intro ?o4 (And.intro ?o5 (And.intro ?o6 (And.intro ?o7 (And.intro ?o8 (And.intro ?o9 (And.intro ?o10 (And.intro ?o11 (And.intro ?o12 (And.intro ?o13 (And.intro ?o14 (And.intro ?o15 (And.intro ?o16 (And.intro ?o17 (And.intro ?o18 (And.intro ?o19 (And.intro ?o20 (And.intro ?o21 (And.intro ?o22 (And.intro ?o23 (And.intro ?o24 (And.intro ?o25 (And.intro ?o26 (And.intro ?o27 (And.intro ?o28 (And.intro ?o29 (And.intro ?o30 (And.intro ?o31 (And.intro ?o32 (And.intro ?o33 (And.intro ?o34 (And.intro ?o35 (And.intro ?o36 (And.intro ?o37 (And.intro ?o38 (And.intro ?o39 (And.intro ?o40 trivial)))))))))))))))))))))))))))))))))))))))))
                  case o0 =>
                    intro AA W KK QQ hB hs hd hl hk
                    have sl8 := hs 8 _ (by kernel_rfl) rfl
                    clear hs hd hl
                    go_simp
                    exact hk _ _ rfl (Below.refl _ _)
                  case o1 =>
                    intro AA W KK QQ hB hs hd hl hk
                    obtain ⟨_, sl76, rfl⟩ := hd 0 76 (by kernel_rfl) rfl
                    clear hs hd hl
                    go_simp
                    exact hk _ _ rfl (Below.refl _ _)
                  case o2 =>
                    intro AA W KK QQ hB hs hd hl hk
                    obtain ⟨_, sl77, rfl⟩ := hd 1 77 (by kernel_rfl) rfl
                    clear hs hd hl
                    go_simp
                    exact hk _ _ rfl (Below.refl _ _)
                  case o3 =>
                    intro AA W KK QQ hB hs hd hl hk
                    have sl0 := hs 0 _ (by kernel_rfl) rfl
                    obtain ⟨_, sl78, rfl⟩ := hd 2 78 (by kernel_rfl) rfl
                    clear hs hd hl
                    refine ⟨_, _, rfl, sl78, ?_⟩
                    first
                      | (change Oper.wp _ _ _ _ _ _; go_simp; exact hk _ _ rfl (Below.refl _ _))
                      | exact rfl
                  case o4 =>
                    intro AA W KK QQ hB hs hd hl hk
                    have sl3 := hs 3 _ (by kernel_rfl) rfl
                    obtain ⟨_, sl78, rfl⟩ := hd 2 78 (by kernel_rfl) rfl
                    clear hs hd hl
                    have hx0 := hB.cell (p := ⟨w.heap.size, 0, none⟩) hwz
                    have hx1 := hB.cell (p := ⟨w.heap.size, 1, none⟩) hwz
                    have hx2 := hB.cell (p := ⟨w.heap.size, 2, none⟩) hwz
                    have hx3 := hB.cell (p := ⟨w.heap.size, 3, none⟩) hwz
                    have hx4 := hB.cell (p := ⟨w.heap.size, 4, none⟩) hwz
                    rw [q0] at hx0
                    rw [q1] at hx1
                    rw [q2] at hx2
                    rw [q3] at hx3
                    rw [q4] at hx4
                    refine ⟨_, _, rfl, sl78, ?_⟩
                    first
                      | (change Oper.wp _ _ _ _ _ _; go_simp; exact hk _ _ rfl (Below.refl _ _))
                      | exact rfl
                  case o5 =>
                    intro AA W KK QQ hB hs hd hl hk
                    have sl5 := hs 5 _ (by kernel_rfl) rfl
                    obtain ⟨_, sl78, rfl⟩ := hd 2 78 (by kernel_rfl) rfl
                    clear hs hd hl
                    refine ⟨_, _, rfl, sl78, ?_⟩
                    first
                      | (change Oper.wp _ _ _ _ _ _; go_simp; exact hk _ _ rfl (Below.refl _ _))
                      | exact rfl
                  case o6 =>
                    intro AA W KK QQ hB hs hd hl hk
                    have sl7 := hs 7 _ (by kernel_rfl) rfl
                    obtain ⟨_, sl78, rfl⟩ := hd 2 78 (by kernel_rfl) rfl
                    clear hs hd hl
                    refine ⟨_, _, rfl, sl78, ?_⟩
                    first
                      | (change Oper.wp _ _ _ _ _ _; go_simp; exact hk _ _ rfl (Below.refl _ _))
                      | exact rfl
                  case o7 =>
                    intro AA W KK QQ hB hs hd hl hk
                    obtain ⟨_, sl78, rfl⟩ := hd 2 78 (by kernel_rfl) rfl
                    obtain ⟨_, sl81, rfl⟩ := hd 5 81 (by kernel_rfl) rfl
                    obtain ⟨_, sl82, rfl⟩ := hd 6 82 (by kernel_rfl) rfl
                    clear hs hd hl
                    refine ⟨_, _, rfl, sl78, ?_⟩
                    first
                      | (change Oper.wp _ _ _ _ _ _; go_simp; exact hk _ _ rfl (Below.refl _ _))
                      | exact rfl
                  case o8 =>
                    intro AA W KK QQ hB hs hd hl hk
                    obtain ⟨_, sl78, rfl⟩ := hd 2 78 (by kernel_rfl) rfl
                    obtain ⟨_, sl83, rfl⟩ := hd 7 83 (by kernel_rfl) rfl
                    clear hs hd hl
                    have hx0 := hB.cell (p := ⟨pl, ol + k * 4, none⟩) hpl
                    have hx1 := hB.cell (p := ⟨pl, ol + k * 4 + 1, none⟩) hpl
                    have hx2 := hB.cell (p := ⟨pl, ol + k * 4 + 2, none⟩) hpl
                    have hx3 := hB.cell (p := ⟨pl, ol + k * 4 + 3, none⟩) hpl
                    rw [u0] at hx0
                    rw [u1] at hx1
                    rw [u2] at hx2
                    rw [u3] at hx3
                    refine ⟨_, _, rfl, sl78, ?_⟩
                    first
                      | (change Oper.wp _ _ _ _ _ _; go_simp; exact hk _ _ rfl (Below.refl _ _))
                      | exact rfl
                  case o9 =>
                    intro AA W KK QQ hB hs hd hl hk
                    obtain ⟨_, sl78, rfl⟩ := hd 2 78 (by kernel_rfl) rfl
                    obtain ⟨_, sl79, rfl⟩ := hd 3 79 (by kernel_rfl) rfl
                    obtain ⟨_, sl80, rfl⟩ := hd 4 80 (by kernel_rfl) rfl
                    obtain ⟨_, sl84, rfl⟩ := hd 8 84 (by kernel_rfl) rfl
                    clear hs hd hl
                    refine ⟨_, _, rfl, sl78, ?_⟩
                    change Oper.wp _ _ _ _ _ _
                    go_simp
                    refine (cAs.out W hB).mono ?_
                    rintro e W2 ⟨rfl, hb2⟩
                    exact hk _ _ rfl hb2
                  case o10 =>
                    intro AA W KK QQ hB hs hd hl hk
                    obtain ⟨_, sl78, rfl⟩ := hd 2 78 (by kernel_rfl) rfl
                    obtain ⟨_, sl85, rfl⟩ := hd 9 85 (by kernel_rfl) rfl
                    clear hs hd hl
                    refine ⟨_, _, rfl, sl78, ?_⟩
                    first
                      | (change Oper.wp _ _ _ _ _ _; go_simp; exact hk _ _ rfl (Below.refl _ _))
                      | exact rfl
                  case o11 =>
                    intro AA W KK QQ hB hs hd hl hk
                    obtain ⟨_, sl78, rfl⟩ := hd 2 78 (by kernel_rfl) rfl
                    obtain ⟨_, sl86, rfl⟩ := hd 10 86 (by kernel_rfl) rfl
                    clear hs hd hl
                    go_simp
                    exact hk _ _ rfl (Below.refl _ _)
                  case o12 =>
                    intro AA W KK QQ hB hs hd hl hk
                    obtain ⟨_, sl87, rfl⟩ := hd 11 87 (by kernel_rfl) rfl
                    clear hs hd hl
                    go_simp
                    exact hk _ _ rfl (Below.refl _ _)
                  case o13 =>
                    intro AA W KK QQ hB hs hd hl hk
                    have sl5 := hs 5 _ (by kernel_rfl) rfl
                    obtain ⟨_, sl88, rfl⟩ := hd 12 88 (by kernel_rfl) rfl
                    clear hs hd hl
                    refine ⟨_, _, rfl, sl88, ?_⟩
                    first
                      | (change Oper.wp _ _ _ _ _ _; go_simp; exact hk _ _ rfl (Below.refl _ _))
                      | exact rfl
                  case o14 =>
                    intro AA W KK QQ hB hs hd hl hk
                    have sl7 := hs 7 _ (by kernel_rfl) rfl
                    obtain ⟨_, sl88, rfl⟩ := hd 12 88 (by kernel_rfl) rfl
                    clear hs hd hl
                    refine ⟨_, _, rfl, sl88, ?_⟩
                    first
                      | (change Oper.wp _ _ _ _ _ _; go_simp; exact hk _ _ rfl (Below.refl _ _))
                      | exact rfl
                  case o15 =>
                    intro AA W KK QQ hB hs hd hl hk
                    obtain ⟨_, sl88, rfl⟩ := hd 12 88 (by kernel_rfl) rfl
                    obtain ⟨_, sl89, rfl⟩ := hd 13 89 (by kernel_rfl) rfl
                    obtain ⟨_, sl90, rfl⟩ := hd 14 90 (by kernel_rfl) rfl
                    clear hs hd hl
                    refine ⟨_, _, rfl, sl88, ?_⟩
                    first
                      | (change Oper.wp _ _ _ _ _ _; go_simp; exact hk _ _ rfl (Below.refl _ _))
                      | exact rfl
                  case o16 =>
                    intro AA W KK QQ hB hs hd hl hk
                    obtain ⟨_, sl88, rfl⟩ := hd 12 88 (by kernel_rfl) rfl
                    obtain ⟨_, sl91, rfl⟩ := hd 15 91 (by kernel_rfl) rfl
                    clear hs hd hl
                    refine ⟨_, _, rfl, sl88, ?_⟩
                    first
                      | (change Oper.wp _ _ _ _ _ _; go_simp; exact hk _ _ rfl (Below.refl _ _))
                      | exact rfl
                  case o17 =>
                    intro AA W KK QQ hB hs hd hl hk
                    obtain ⟨_, sl88, rfl⟩ := hd 12 88 (by kernel_rfl) rfl
                    obtain ⟨_, sl92, rfl⟩ := hd 16 92 (by kernel_rfl) rfl
                    clear hs hd hl
                    have hx0 := hB.cell (p := ⟨pl, ol + k * 4, none⟩) hpl
                    rw [u0] at hx0
                    refine ⟨_, _, rfl, sl88, ?_⟩
                    first
                      | (change Oper.wp _ _ _ _ _ _; go_simp; exact hk _ _ rfl (Below.refl _ _))
                      | exact rfl
                  case o18 =>
                    intro AA W KK QQ hB hs hd hl hk
                    have sl3 := hs 3 _ (by kernel_rfl) rfl
                    obtain ⟨_, sl88, rfl⟩ := hd 12 88 (by kernel_rfl) rfl
                    clear hs hd hl
                    refine ⟨_, _, rfl, sl88, ?_⟩
                    first
                      | (change Oper.wp _ _ _ _ _ _; go_simp; exact hk _ _ rfl (Below.refl _ _))
                      | exact rfl
                  case o19 =>
                    intro AA W KK QQ hB hs hd hl hk
                    obtain ⟨_, sl88, rfl⟩ := hd 12 88 (by kernel_rfl) rfl
                    obtain ⟨_, sl94, rfl⟩ := hd 18 94 (by kernel_rfl) rfl
                    clear hs hd hl
                    refine ⟨_, _, rfl, sl88, ?_⟩
                    first
                      | (change Oper.wp _ _ _ _ _ _; go_simp; exact hk _ _ rfl (Below.refl _ _))
                      | exact rfl
                  case o20 =>
                    intro AA W KK QQ hB hs hd hl hk
                    obtain ⟨_, sl88, rfl⟩ := hd 12 88 (by kernel_rfl) rfl
                    obtain ⟨_, sl95, rfl⟩ := hd 19 95 (by kernel_rfl) rfl
                    clear hs hd hl
                    have hx0 := hB.cell (p := ⟨w.heap.size, 0, none⟩) hwz
                    rw [q0] at hx0
                    refine ⟨_, _, rfl, sl88, ?_⟩
                    first
                      | (change Oper.wp _ _ _ _ _ _; go_simp; exact hk _ _ rfl (Below.refl _ _))
                      | exact rfl
                  case o21 =>
                    intro AA W KK QQ hB hs hd hl hk
                    obtain ⟨_, sl88, rfl⟩ := hd 12 88 (by kernel_rfl) rfl
                    obtain ⟨_, sl93, rfl⟩ := hd 17 93 (by kernel_rfl) rfl
                    obtain ⟨_, sl96, rfl⟩ := hd 20 96 (by kernel_rfl) rfl
                    clear hs hd hl
                    refine ⟨_, _, rfl, sl88, ?_⟩
                    first
                      | (change Oper.wp _ _ _ _ _ _; go_simp; exact hk _ _ rfl (Below.refl _ _))
                      | exact rfl
                  case o22 =>
                    intro AA W KK QQ hB hs hd hl hk
                    obtain ⟨_, sl88, rfl⟩ := hd 12 88 (by kernel_rfl) rfl
                    obtain ⟨_, sl97, rfl⟩ := hd 21 97 (by kernel_rfl) rfl
                    clear hs hd hl
                    go_simp
                    exact hk _ _ rfl (Below.refl _ _)
                  case o23 =>
                    intro AA W KK QQ hB hs hd hl hk
                    obtain ⟨_, sl98, rfl⟩ := hd 22 98 (by kernel_rfl) rfl
                    clear hs hd hl
                    go_simp
                    exact hk _ _ rfl (Below.refl _ _)
                  case o24 =>
                    intro AA W KK QQ hB hs hd hl hk
                    have sl7 := hs 7 _ (by kernel_rfl) rfl
                    obtain ⟨_, sl99, rfl⟩ := hd 23 99 (by kernel_rfl) rfl
                    clear hs hd hl
                    refine ⟨_, _, rfl, sl99, ?_⟩
                    first
                      | (change Oper.wp _ _ _ _ _ _; go_simp; exact hk _ _ rfl (Below.refl _ _))
                      | exact rfl
                  case o25 =>
                    intro AA W KK QQ hB hs hd hl hk
                    obtain ⟨_, sl99, rfl⟩ := hd 23 99 (by kernel_rfl) rfl
                    obtain ⟨_, sl100, rfl⟩ := hd 24 100 (by kernel_rfl) rfl
                    clear hs hd hl
                    refine ⟨_, _, rfl, sl99, ?_⟩
                    first
                      | (change Oper.wp _ _ _ _ _ _; go_simp; exact hk _ _ rfl (Below.refl _ _))
                      | exact rfl
                  case o26 =>
                    intro AA W KK QQ hB hs hd hl hk
                    obtain ⟨_, sl99, rfl⟩ := hd 23 99 (by kernel_rfl) rfl
                    obtain ⟨_, sl101, rfl⟩ := hd 25 101 (by kernel_rfl) rfl
                    clear hs hd hl
                    refine ⟨_, _, rfl, sl99, ?_⟩
                    first
                      | (change Oper.wp _ _ _ _ _ _; go_simp; exact hk _ _ rfl (Below.refl _ _))
                      | exact rfl
                  case o27 =>
                    intro AA W KK QQ hB hs hd hl hk
                    have sl5 := hs 5 _ (by kernel_rfl) rfl
                    obtain ⟨_, sl102, rfl⟩ := hd 26 102 (by kernel_rfl) rfl
                    clear hs hd hl
                    refine ⟨_, _, rfl, sl102, ?_⟩
                    first
                      | (change Oper.wp _ _ _ _ _ _; go_simp; exact hk _ _ rfl (Below.refl _ _))
                      | exact rfl
                  case o28 =>
                    intro AA W KK QQ hB hs hd hl hk
                    have sl7 := hs 7 _ (by kernel_rfl) rfl
                    obtain ⟨_, sl102, rfl⟩ := hd 26 102 (by kernel_rfl) rfl
                    clear hs hd hl
                    refine ⟨_, _, rfl, sl102, ?_⟩
                    first
                      | (change Oper.wp _ _ _ _ _ _; go_simp; exact hk _ _ rfl (Below.refl _ _))
                      | exact rfl
                  case o29 =>
                    intro AA W KK QQ hB hs hd hl hk
                    obtain ⟨_, sl102, rfl⟩ := hd 26 102 (by kernel_rfl) rfl
                    obtain ⟨_, sl104, rfl⟩ := hd 28 104 (by kernel_rfl) rfl
                    clear hs hd hl
                    refine ⟨_, _, rfl, sl102, ?_⟩
                    first
                      | (change Oper.wp _ _ _ _ _ _; go_simp; exact hk _ _ rfl (Below.refl _ _))
                      | exact rfl
                  case o30 =>
                    intro AA W KK QQ hB hs hd hl hk
                    obtain ⟨_, sl102, rfl⟩ := hd 26 102 (by kernel_rfl) rfl
                    obtain ⟨_, sl103, rfl⟩ := hd 27 103 (by kernel_rfl) rfl
                    obtain ⟨_, sl105, rfl⟩ := hd 29 105 (by kernel_rfl) rfl
                    clear hs hd hl
                    refine ⟨_, _, rfl, sl102, ?_⟩
                    first
                      | (change Oper.wp _ _ _ _ _ _; go_simp; exact hk _ _ rfl (Below.refl _ _))
                      | exact rfl
                  case o31 =>
                    intro AA W KK QQ hB hs hd hl hk
                    obtain ⟨_, sl102, rfl⟩ := hd 26 102 (by kernel_rfl) rfl
                    obtain ⟨_, sl106, rfl⟩ := hd 30 106 (by kernel_rfl) rfl
                    clear hs hd hl
                    refine ⟨_, _, rfl, sl102, ?_⟩
                    first
                      | (change Oper.wp _ _ _ _ _ _; go_simp; exact hk _ _ rfl (Below.refl _ _))
                      | exact rfl
                  case o32 =>
                    intro AA W KK QQ hB hs hd hl hk
                    obtain ⟨_, sl102, rfl⟩ := hd 26 102 (by kernel_rfl) rfl
                    obtain ⟨_, sl107, rfl⟩ := hd 31 107 (by kernel_rfl) rfl
                    clear hs hd hl
                    refine ⟨_, _, rfl, sl102, ?_⟩
                    first
                      | (change Oper.wp _ _ _ _ _ _; go_simp; exact hk _ _ rfl (Below.refl _ _))
                      | exact rfl
                  case o33 =>
                    intro AA W KK QQ hB hs hd hl hk
                    have sl5 := hs 5 _ (by kernel_rfl) rfl
                    obtain ⟨_, sl102, rfl⟩ := hd 26 102 (by kernel_rfl) rfl
                    clear hs hd hl
                    refine ⟨_, _, rfl, sl102, ?_⟩
                    first
                      | (change Oper.wp _ _ _ _ _ _; go_simp; exact hk _ _ rfl (Below.refl _ _))
                      | exact rfl
                  case o34 =>
                    intro AA W KK QQ hB hs hd hl hk
                    have sl7 := hs 7 _ (by kernel_rfl) rfl
                    obtain ⟨_, sl102, rfl⟩ := hd 26 102 (by kernel_rfl) rfl
                    clear hs hd hl
                    refine ⟨_, _, rfl, sl102, ?_⟩
                    first
                      | (change Oper.wp _ _ _ _ _ _; go_simp; exact hk _ _ rfl (Below.refl _ _))
                      | exact rfl
                  case o35 =>
                    intro AA W KK QQ hB hs hd hl hk
                    obtain ⟨_, sl102, rfl⟩ := hd 26 102 (by kernel_rfl) rfl
                    obtain ⟨_, sl109, rfl⟩ := hd 33 109 (by kernel_rfl) rfl
                    obtain ⟨_, sl110, rfl⟩ := hd 34 110 (by kernel_rfl) rfl
                    clear hs hd hl
                    refine ⟨_, _, rfl, sl102, ?_⟩
                    first
                      | (change Oper.wp _ _ _ _ _ _; go_simp; exact hk _ _ rfl (Below.refl _ _))
                      | exact rfl
                  case o36 =>
                    intro AA W KK QQ hB hs hd hl hk
                    obtain ⟨_, sl102, rfl⟩ := hd 26 102 (by kernel_rfl) rfl
                    obtain ⟨_, sl111, rfl⟩ := hd 35 111 (by kernel_rfl) rfl
                    clear hs hd hl
                    refine ⟨_, _, rfl, sl102, ?_⟩
                    first
                      | (change Oper.wp _ _ _ _ _ _; go_simp; exact hk _ _ rfl (Below.refl _ _))
                      | exact rfl
                  case o37 =>
                    intro AA W KK QQ hB hs hd hl hk
                    obtain ⟨_, sl102, rfl⟩ := hd 26 102 (by kernel_rfl) rfl
                    obtain ⟨_, sl112, rfl⟩ := hd 36 112 (by kernel_rfl) rfl
                    clear hs hd hl
                    refine ⟨_, _, rfl, sl102, ?_⟩
                    first
                      | (change Oper.wp _ _ _ _ _ _; go_simp; exact hk _ _ rfl (Below.refl _ _))
                      | exact rfl
                  case o38 =>
                    intro AA W KK QQ hB hs hd hl hk
                    obtain ⟨_, sl102, rfl⟩ := hd 26 102 (by kernel_rfl) rfl
                    obtain ⟨_, sl108, rfl⟩ := hd 32 108 (by kernel_rfl) rfl
                    obtain ⟨_, sl113, rfl⟩ := hd 37 113 (by kernel_rfl) rfl
                    clear hs hd hl
                    refine ⟨_, _, rfl, sl102, ?_⟩
                    first
                      | (change Oper.wp _ _ _ _ _ _; go_simp; exact hk _ _ rfl (Below.refl _ _))
                      | exact rfl
                  case o39 =>
                    intro AA W KK QQ hB hs hd hl hk
                    obtain ⟨_, sl99, rfl⟩ := hd 23 99 (by kernel_rfl) rfl
                    obtain ⟨_, sl102, rfl⟩ := hd 26 102 (by kernel_rfl) rfl
                    obtain ⟨_, sl114, rfl⟩ := hd 38 114 (by kernel_rfl) rfl
                    clear hs hd hl
                    refine ⟨_, _, rfl, sl99, ?_⟩
                    first
                      | (change Oper.wp _ _ _ _ _ _; go_simp; exact hk _ _ rfl (Below.refl _ _))
                      | exact rfl
                  case o40 =>
                    intro AA W KK QQ hB hs hd hl hk
                    obtain ⟨_, sl99, rfl⟩ := hd 23 99 (by kernel_rfl) rfl
                    obtain ⟨_, sl115, rfl⟩ := hd 39 115 (by kernel_rfl) rfl
                    clear hs hd hl
                    go_simp
                    exact hk _ _ rfl (Below.refl _ _)
                case fin =>
                  intro wh hB
                  refine fin_isv 76 rfl ?_
                  refine fin_isv 77 rfl ?_
                  refine fin_isv 78 rfl ?_
                  refine fin_isv 79 rfl ?_
                  refine fin_isv 80 rfl ?_
                  refine fin_isv 81 rfl ?_
                  refine fin_isv 82 rfl ?_
                  refine fin_isv 83 rfl ?_
                  refine fin_isv 84 rfl ?_
                  refine fin_isv 85 rfl ?_
                  refine fin_isv 86 rfl ?_
                  refine fin_isv 87 rfl ?_
                  refine fin_isv 88 rfl ?_
                  refine fin_isv 89 rfl ?_
                  refine fin_isv 90 rfl ?_
                  refine fin_isv 91 rfl ?_
                  refine fin_isv 92 rfl ?_
                  refine fin_isv 93 rfl ?_
                  refine fin_isv 94 rfl ?_
                  refine fin_isv 95 rfl ?_
                  refine fin_isv 96 rfl ?_
                  refine fin_isv 97 rfl ?_
                  refine fin_isv 98 rfl ?_
                  refine fin_isv 99 rfl ?_
                  refine fin_isv 100 rfl ?_
                  refine fin_isv 101 rfl ?_
                  refine fin_isv 102 rfl ?_
                  refine fin_isv 103 rfl ?_
                  refine fin_isv 104 rfl ?_
                  refine fin_isv 105 rfl ?_
                  refine fin_isv 106 rfl ?_
                  refine fin_isv 107 rfl ?_
                  refine fin_isv 108 rfl ?_
                  refine fin_isv 109 rfl ?_
                  refine fin_isv 110 rfl ?_
                  refine fin_isv 111 rfl ?_
                  refine fin_isv 112 rfl ?_
                  refine fin_isv 113 rfl ?_
                  refine fin_isv 114 rfl ?_
                  refine fin_isv 115 rfl ?_
                  refine fin_isv 116 rfl ?_
                  refine frame118_1d74067c6e _ _ _ _ _ _ _ _ _ _ _ _ _ _ _ _ _ _ _ _ _ _ _ _ _ _ _ _ _ _ _ _ _ _ _ _ _ _ _ _ _ _ _ _ _ _ _ _ _ _ _ _ _ _ _ _ _ _ _ _ _ _ _ _ _ _ _ _ _ _ _ _ _ _ _ _ _ _ _ _ _ _ _ _ _ _ _ _ _ _ _ _ _ _ _ _ _ _ _ _ _ _ _ _ _ _ _ _ _ _ _ _ _ _ _ _ _ _ _ _ _ _ _ _ _ _ _ _ _ _ _ _ _ _ _ _ _ _ _ _ _ _ _ _ _ _ _ _ _ _ _ _ _ _ _ _ _ _ _ ?_
                  have HBh := Lib.hid (HB.out.trans ((HBn.out.trans (hB.mono HBn.out.size)).mono HB.out.size))
                  clear hB q0 q1 q2 q3 q4 u0 u1 u2 u3
                  go_wp2
                  go_roundw
                  case rel => exact ⟨k + 1, by omega, by omega, by go_num, HBh⟩
                  case measure => simp [intOf]; omega
        · have hnl : ¬ (k : Int) < (bl.length : Int) := by omega
          go_wp2_with fail
          refine (cX.out _ HBo.out).mono ?_
          rintro e w20 ⟨rfl, hb20⟩
          have HBF := Lib.hid (HBo.out.trans (hb20.mono HBo.out.size))
          clear hb20 cX
          go_wp2
          go_ret
          exact ⟨rfl, HBF.out⟩

set_option maxRecDepth 100000 in
theorem contract (H : Type) (enc : TypeId × Value → H) (W : World) (base : Nat) (args : Array Value) (ds gs : List (DataW H)) (before : List MemPlace)
    (hval : ∀ (j : Nat) t v, Tryd.f3.params[j]? = some t → args[j]? = some v → Value.okWide Tryd.prog W .any base t v)
    (hW : DataW.Whole enc Tryd.prog Tryd.f3.params.toList Rows.selectionSatisfiesSpec.vars false W args.toList ds gs before) (hk : Rows.uptoSmall H (ds ++ gs) = true) (hG : Glob W) :
    Calls Tryd.prog 3 args W fun e W' => ∃ v, e = .returned v ∧ Rows.selectionSatisfiesSpec.post enc Tryd.prog Tryd.f3 false true false false W args v W' := by
  have hW' := hW
  obtain ⟨p, q, hA0, hV, rfl, hfz, hnd⟩ := hW
  have hA : DataW.TrodAll enc Tryd.prog W 0 (fun _ => true) true Tryd.f3.params.toList args.toList ds p := hA0
  rw [Tryd.params3] at hA hval
  obtain ⟨v0, vs0, d0, ds0, p0, q0, hargs, rfl, rfl, h0, r0⟩ := trodAll_cons hA
  obtain ⟨v1, vs1, d1, ds1, p1, q1, rfl, rfl, rfl, h1, r1⟩ := trodAll_cons r0
  obtain ⟨rfl, rfl, rfl⟩ := trodAll_nil r1
  obtain rfl : args = #[v0, v1] := by cases args; simp_all
  obtain ⟨rfl, rfl⟩ := trodVars_none hV
  obtain ⟨A0, c0, L0, rfl, hS0, hO0, _, hN0⟩ := open_sl Tryd.underlying22 (opens_manifests W 1048576) (hval 0 22 v0 rfl rfl) h0 (by have := bulk_of hk; simp only [List.append_nil, Rows.uptoBulkAll] at this; omega)
  have hl0 : L0.length ≤ 1048576 := by omega
  obtain ⟨r1x, rfl, hO1⟩ := open_st Tryd.underlying29 (opens_manifest W 1048576) (hval 1 29 v1 rfl rfl) h1 (by have := bulk_of hk; simp only [List.append_nil, Rows.uptoBulkAll] at this; omega)
  clear hA0
  have hw := walk A0 c0 L0 r1x W hS0 hO0 hl0 hO1 hG
  refine hw.mono fun e W' ⟨he, hb⟩ => ?_
  subst he
  exact ⟨_, rfl, law_post hW' rfl (by kernel_rfl) (by kernel_rfl) rfl rfl rfl hb⟩

set_option maxRecDepth 100000 in
theorem reads (os : Os) {H : Type} (enc : TypeId × Value → H) : ∃ places, DataW.whole enc Tryd.prog ((laidWorld os).forCall (fun _ _ => 0) ⟨#[], #[.slice none 0 0, .agg #[.string ByteArray.empty, .int .i64 0, .int .i64 0, .int .i64 0, .slice none 0 0]], []⟩).memory Tryd.f3.params.toList Rows.selectionSatisfiesSpec.vars false (#[.slice none 0 0, .agg #[.string ByteArray.empty, .int .i64 0, .int .i64 0, .int .i64 0, .slice none 0 0]] : Array Value).toList 8 = some ([.nil, .agg [.agg [.lit (.string []), .agg [.lit (.int .i64 0), .lit (.int .i64 0), .lit (.int .i64 0)]], .nil]], [], places) :=
  ⟨[], by kernel_rfl⟩

set_option maxRecDepth 100000 in
theorem lifted (os : Os) (started : os.Started) (H : Type) (enc : TypeId × Value → H) (F : Stop.Interp) :
    ReturnsInHanded {} Tryd.checked os 3 .any ((Rows.OpenSpec.upto Rows.selectionSatisfiesSpec).preRow enc Tryd.prog Tryd.f3 Rows.selectionSatisfiesUptoRow.domain false Rows.selectionSatisfiesUptoRow.laid) (((Rows.OpenSpec.upto Rows.selectionSatisfiesSpec).at F).post enc Tryd.prog Tryd.f3 false true false false) := by
  obtain ⟨places, hx⟩ := reads os enc
  refine returnsInHanded_of_row (C := Tryd.checked) (s := Rows.OpenSpec.upto Rows.selectionSatisfiesSpec) own started (by kernel_rfl) Tryd.func3
    (witness_row_at (enc := enc) (C := Tryd.checked) false (laidWorld os) #[.slice none 0 0, .agg #[.string ByteArray.empty, .int .i64 0, .int .i64 0, .int .i64 0, .slice none 0 0]] (World.laidAll_os _ _ _) (by kernel_rfl) (by kernel_rfl) (by kernel_rfl)
      (OpenSpec.preRow_of_cond 8 hx (by kernel_rfl) (fun k hk => by cases hk; kernel_rfl) (by kernel_rfl) (laid_met os _))) ?_
  intro W base args ds gs before hval hW _ hcond _ hL hsh _
  exact contract H enc W base args ds gs before hval hW (hcond _ rfl) (glob_of hL hsh)

set_option maxRecDepth 100000 in
theorem said : Rows.SelectionSatisfiesUptoSaid :=
  OpenClaim.holds_of_cond 3 Tryd.f3 rfl rfl rfl rfl rfl rfl rfl ⟨rfl, rfl, rfl, rfl, rfl⟩ rfl rfl rfl rfl rfl (by kernel_rfl) Tryd.func3 (by kernel_rfl)
    (of_decide_eq_true (by kernel_rfl)) (by unfold Func.isWrapper; first | (rw [if_pos (by decide +kernel)]; kernel_rfl) | (rw [if_neg (by decide +kernel)]; exact ⟨rfl, rfl⟩))
    (fun os started H enc _ F => by rw [OpenClaim.pre_eq_preRow]; exact lifted os started H enc F)

set_option maxRecDepth 100000 in
theorem plain (f : FuncId) (fn : Func) (hf : Tryd.pinned.checked.prog.funcNamed "configlang/configlanglaw46.SelectionSatisfies" = some f) (hfn : Tryd.pinned.checked.prog.funcs[f]? = some fn) :
    false = Tryd.pinned.checked.prog.looks [] ∧ ∀ (j : Nat) t, fn.params[j]? = some t → Tryd.pinned.checked.prog.wantsStandIn t = false := by
  obtain rfl : f = 3 := Option.some.inj ((show Tryd.prog.funcNamed "configlang/configlanglaw46.SelectionSatisfies" = some 3 by kernel_rfl).symm.trans hf) |>.symm
  obtain rfl : fn = Tryd.f3 := (Option.some.inj (Tryd.func3.symm.trans hfn)).symm
  refine ⟨by kernel_rfl, fun j t ht => ?_⟩
  rw [Tryd.params3] at ht
  have hm : t = 22 ∨ t = 29 := by simpa using Array.mem_of_getElem? ht
  rcases hm with rfl | rfl
  · exact (show Tryd.prog.wantsStandIn 22 = false by kernel_rfl)
  · exact (show Tryd.prog.wantsStandIn 29 = false by kernel_rfl)

set_option maxRecDepth 100000 in
theorem card : Rows.SelectionSatisfiesUptoCardSaid :=
  Claim7.holds_tied_plain_at .later [] _ _ _ _ said (fun _ h => by cases h) (by kernel_rfl) (fun _ h => by cases h) selectionSatisfiesUpto_row_tie rfl ⟨rfl, rfl⟩ (by kernel_rfl) rfl plain (by kernel_rfl)
end Go.Proofs.YtfiilbdkhelhgaaDoor.lawSatis
