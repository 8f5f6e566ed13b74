/- The law SelectionChains holds of every registry and root of bulk at most 1048576: the tied card of the second form. No condition beside the row's own. -/
import Derived.Test.YtfiilbdkhelhgaaDoorG2
import Derived.Test.YtfiilbdkhelhgaaDoorOpen2
import Derived.Test.YtfiilbdkhelhgaaDoorWL3
import Derived.Test.YtfiilbdkhelhgaaDoorPL10
import Derived.Test.YtfiilbdkhelhgaaDoorLA6
import Derived.Test.YtfiilbdkhelhgaaDoorLB6
import Derived.Test.YtfiilbdkhelhgaaDoorFct
namespace Go.Proofs.YtfiilbdkhelhgaaDoor.lawChains
open Go.ChangeShapes Go.WideShapes Go.ChangeAt Go.RowKit
open Go.ChangeMaps (open_string shut_string)

theorem chainUp_len (first : List Mod) (F : List (Mod × Mod)) : ∀ (n : Nat) (out : List Mod), (chainUp first F n out).length ≤ n + out.length
  | 0, out => by simp [chainUp]
  | n + 1, [] => by simp [chainUp]
  | n + 1, x :: r => by
    unfold chainUp
    split
    · omega
    · have := chainUp_len first F n ((lookF F x).getD zmod :: x :: r)
      simp at this ⊢
      omega
theorem reason_len {R : Regy} {root : Mod} {l D : List Mod} (h : Built R root l D) {g : Mod} (hg : g ∈ D) : (reasonP R root l g.1).1.length ≤ (univ R l).length + 1 := by
  have h1 := (bfsF_ok (h.rch g hg)).1.len.1
  have h2 := chainUp_len (msort l) (bfsF R l g) (bfsF R l g).length [g]
  unfold reasonP
  rw [h.eq, if_pos rfl]
  show (match D.find? fun m : Mod => decide (m.1 = g.1) with | none => (([] : List Mod), (7 : Int)) | some g => (chainUp (msort l) (bfsF R l g) (bfsF R l g).length [g], 0)).1.length ≤ _
  rw [show D.find? (fun m : Mod => decide (m.1 = g.1)) = some g from hasV_of h.tail.nod hg]
  simp only [List.length_singleton] at h2 ⊢
  omega
/-- a chain, as the law asks it -/
structure Okc (R : Regy) (l : List Mod) (g : Mod) (cc : List Mod) : Prop where
  pos : 1 ≤ cc.length
  len : cc.length ≤ 10200
  fst : ∃ h : 0 < cc.length, cc[0] ∈ l
  last : ∃ h : cc.length - 1 < cc.length, cc[cc.length - 1] = g
  step : ∀ k (hk : k + 1 < cc.length), cc[k + 1] ∈ reqOf R (cc[k]'(by omega))
set_option maxRecDepth 100000 in
theorem frame121_f4da19afe1 {Q : Exit → Act → World → Prop} {W : World} {fs : List Fact} (t0 t1 t2 t3 t4 t5 t6 t7 t8 t9 t10 t11 t12 t13 t14 t15 t16 t17 t18 t19 t20 t21 t22 t23 t24 t25 t26 t27 t28 t29 t30 t31 t32 t33 t34 t35 t36 t37 t38 t39 t40 t41 t42 t43 t44 t45 t46 t47 t48 t49 t50 t51 t52 t53 t54 t55 t56 t57 t58 t59 t60 t61 t62 t63 t64 t65 t66 t67 t68 t69 t70 t71 t72 t73 t74 t75 t76 t77 t78 t79 t80 t81 t82 t83 t84 t85 t86 t87 t88 t89 t90 t91 t92 t93 t94 t95 t96 t97 t98 t99 t100 t101 t102 t103 t104 t105 t106 t107 t108 t109 t110 t111 t112 t113 t114 t115 t116 t117 t118 t119 t120 v0 v1 v2 v3 v4 v5 v6 v7 v8 v9 v10 v11 v12 : Value) (h : Q .normal (Act.mk #[t0, t1, t2, t3, t4, t5, t6, t7, v11, v12, t10, t11, t12, t13, t14, t15, t16, t17, t18, t19, t20, t21, t22, t23, t24, t25, t26, t27, t28, t29, v8, v0, v1, v2, v3, v4, v5, v6, v7, v9, v10, t41, t42, t43, t44, t45, t46, t47, t48, t49, t50, t51, t52, t53, t54, t55, t56, t57, t58, t59, t60, t61, t62, t63, t64, t65, t66, t67, t68, t69, t70, t71, t72, t73, t74, t75, t76, t77, t78, t79, t80, t81, t82, t83, t84, t85, t86, t87, t88, t89, t90, t91, t92, t93, t94, t95, t96, t97, t98, t99, t100, t101, t102, t103, t104, t105, t106, t107, t108, t109, t110, t111, t112, t113, t114, t115, t116, t117, t118, t119, t120] []) W) : FinAll W (fun A => Q .normal A W) [] fs (Act.put (Act.put (Act.put (Act.put (Act.put (Act.put (Act.put (Act.put (Act.put (Act.put (Act.put (Act.put (Act.put (Act.mk #[t0, t1, t2, t3, t4, t5, t6, t7, t8, t9, t10, t11, t12, t13, t14, t15, t16, t17, t18, t19, t20, t21, t22, t23, t24, t25, t26, t27, t28, t29, t30, t31, t32, t33, t34, t35, t36, t37, t38, t39, t40, t41, t42, t43, t44, t45, t46, t47, t48, t49, t50, t51, t52, t53, t54, t55, t56, t57, t58, t59, t60, t61, t62, t63, t64, t65, t66, t67, t68, t69, t70, t71, t72, t73, t74, t75, t76, t77, t78, t79, t80, t81, t82, t83, t84, t85, t86, t87, t88, t89, t90, t91, t92, t93, t94, t95, t96, t97, t98, t99, t100, t101, t102, t103, t104, t105, t106, t107, t108, t109, t110, t111, t112, t113, t114, t115, t116, t117, t118, t119, t120] []) (some 31) v0) (some 32) v1) (some 33) v2) (some 34) v3) (some 35) v4) (some 36) v5) (some 37) v6) (some 38) v7) (some 30) v8) (some 39) v9) (some 40) v10) (some 8) v11) (some 9) v12) :=
  fin_end (by kernel_rfl) h
set_option maxRecDepth 100000 in
theorem frame121_04075729f1 {Q : Exit → Act → World → Prop} {W : World} {fs : List Fact} (t0 t1 t2 t3 t4 t5 t6 t7 t8 t9 t10 t11 t12 t13 t14 t15 t16 t17 t18 t19 t20 t21 t22 t23 t24 t25 t26 t27 t28 t29 t30 t31 t32 t33 t34 t35 t36 t37 t38 t39 t40 t41 t42 t43 t44 t45 t46 t47 t48 t49 t50 t51 t52 t53 t54 t55 t56 t57 t58 t59 t60 t61 t62 t63 t64 t65 t66 t67 t68 t69 t70 t71 t72 t73 t74 t75 t76 t77 t78 t79 t80 t81 t82 t83 t84 t85 t86 t87 t88 t89 t90 t91 t92 t93 t94 t95 t96 t97 t98 t99 t100 t101 t102 t103 t104 t105 t106 t107 t108 t109 t110 t111 t112 t113 t114 t115 t116 t117 t118 t119 t120 v0 v1 v2 v3 v4 v5 v6 v7 v8 v9 v10 v11 v12 v13 v14 v15 v16 v17 v18 v19 v20 v21 v22 v23 v24 v25 v26 v27 v28 : Value) (h : Q .normal (Act.mk #[t0, t1, t2, t3, t4, t5, t6, t7, t8, t9, t10, t11, t12, t13, t14, t15, t16, t17, t18, t19, t20, t21, t22, t23, t24, t25, t26, t27, t28, t29, t30, t31, t32, t33, t34, t35, t36, t37, t38, t39, t40, v0, v1, v2, v3, v4, v5, v6, v7, v8, v9, v10, v11, v12, v13, v14, v15, v16, v17, v18, v19, v20, v21, v22, v23, v24, v25, v26, v27, v28, t70, t71, t72, t73, t74, t75, t76, t77, t78, t79, t80, t81, t82, t83, t84, t85, t86, t87, t88, t89, t90, t91, t92, t93, t94, t95, t96, t97, t98, t99, t100, t101, t102, t103, t104, t105, t106, t107, t108, t109, t110, t111, t112, t113, t114, t115, t116, t117, t118, t119, t120] []) W) : FinAll W (fun A => Q .normal A W) [] fs (Act.put (Act.put (Act.put (Act.put (Act.put (Act.put (Act.put (Act.put (Act.put (Act.put (Act.put (Act.put (Act.put (Act.put (Act.put (Act.put (Act.put (Act.put (Act.put (Act.put (Act.put (Act.put (Act.put (Act.put (Act.put (Act.put (Act.put (Act.put (Act.put (Act.mk #[t0, t1, t2, t3, t4, t5, t6, t7, t8, t9, t10, t11, t12, t13, t14, t15, t16, t17, t18, t19, t20, t21, t22, t23, t24, t25, t26, t27, t28, t29, t30, t31, t32, t33, t34, t35, t36, t37, t38, t39, t40, t41, t42, t43, t44, t45, t46, t47, t48, t49, t50, t51, t52, t53, t54, t55, t56, t57, t58, t59, t60, t61, t62, t63, t64, t65, t66, t67, t68, t69, t70, t71, t72, t73, t74, t75, t76, t77, t78, t79, t80, t81, t82, t83, t84, t85, t86, t87, t88, t89, t90, t91, t92, t93, t94, t95, t96, t97, t98, t99, t100, t101, t102, t103, t104, t105, t106, t107, t108, t109, t110, t111, t112, t113, t114, t115, t116, t117, t118, t119, t120] []) (some 41) v0) (some 42) v1) (some 43) v2) (some 44) v3) (some 45) v4) (some 46) v5) (some 47) v6) (some 48) v7) (some 49) v8) (some 50) v9) (some 51) v10) (some 52) v11) (some 53) v12) (some 54) v13) (some 55) v14) (some 56) v15) (some 57) v16) (some 58) v17) (some 59) v18) (some 60) v19) (some 61) v20) (some 62) v21) (some 63) v22) (some 64) v23) (some 65) v24) (some 66) v25) (some 67) v26) (some 68) v27) (some 69) v28) :=
  fin_end (by kernel_rfl) h
set_option maxRecDepth 100000 in
theorem frame121_1ea8b7004c {Q : Exit → Act → World → Prop} {W : World} {fs : List Fact} (t0 t1 t2 t3 t4 t5 t6 t7 t8 t9 t10 t11 t12 t13 t14 t15 t16 t17 t18 t19 t20 t21 t22 t23 t24 t25 t26 t27 t28 t29 t30 t31 t32 t33 t34 t35 t36 t37 t38 t39 t40 t41 t42 t43 t44 t45 t46 t47 t48 t49 t50 t51 t52 t53 t54 t55 t56 t57 t58 t59 t60 t61 t62 t63 t64 t65 t66 t67 t68 t69 t70 t71 t72 t73 t74 t75 t76 t77 t78 t79 t80 t81 t82 t83 t84 t85 t86 t87 t88 t89 t90 t91 t92 t93 t94 t95 t96 t97 t98 t99 t100 t101 t102 t103 t104 t105 t106 t107 t108 t109 t110 t111 t112 t113 t114 t115 t116 t117 t118 t119 t120 v0 v1 v2 v3 v4 v5 v6 v7 v8 v9 v10 v11 v12 : Value) (h : Q .normal (Act.mk #[t0, t1, t2, t3, t4, t5, t6, t7, t8, t9, t10, t11, t12, t13, t14, t15, t16, t17, t18, t19, t20, t21, t22, t23, t24, t25, t26, t27, t28, t29, t30, t31, t32, t33, t34, t35, t36, t37, t38, t39, t40, t41, t42, t43, t44, t45, t46, t47, t48, t49, t50, t51, t52, t53, t54, t55, t56, t57, t58, t59, t60, t61, t62, t63, t64, t65, t66, t67, t68, t69, t70, t71, t72, t73, t74, t75, v0, v1, v2, v3, v4, v5, v6, v7, v8, v9, v10, v11, v12, t89, t90, t91, t92, t93, t94, t95, t96, t97, t98, t99, t100, t101, t102, t103, t104, t105, t106, t107, t108, t109, t110, t111, t112, t113, t114, t115, t116, t117, t118, t119, t120] []) W) : FinAll W (fun A => Q .normal A W) [] fs (Act.put (Act.put (Act.put (Act.put (Act.put (Act.put (Act.put (Act.put (Act.put (Act.put (Act.put (Act.put (Act.put (Act.mk #[t0, t1, t2, t3, t4, t5, t6, t7, t8, t9, t10, t11, t12, t13, t14, t15, t16, t17, t18, t19, t20, t21, t22, t23, t24, t25, t26, t27, t28, t29, t30, t31, t32, t33, t34, t35, t36, t37, t38, t39, t40, t41, t42, t43, t44, t45, t46, t47, t48, t49, t50, t51, t52, t53, t54, t55, t56, t57, t58, t59, t60, t61, t62, t63, t64, t65, t66, t67, t68, t69, t70, t71, t72, t73, t74, t75, t76, t77, t78, t79, t80, t81, t82, t83, t84, t85, t86, t87, t88, t89, t90, t91, t92, t93, t94, t95, t96, t97, t98, t99, t100, t101, t102, t103, t104, t105, t106, t107, t108, t109, t110, t111, t112, t113, t114, t115, t116, t117, t118, t119, t120] []) (some 76) v0) (some 77) v1) (some 78) v2) (some 79) v3) (some 80) v4) (some 81) v5) (some 82) v6) (some 83) v7) (some 84) v8) (some 85) v9) (some 86) v10) (some 87) v11) (some 88) v12) :=
  fin_end (by kernel_rfl) h
set_option maxRecDepth 100000 in
set_option maxHeartbeats 4000000 in
theorem walk (A : Option Addr) (c : Nat) (L : List ManW) (y0 : ManW) (w : World) (hS : Sl w w.heap.size 5 encW A L) (hO : ∀ y ∈ L, inW w 1048576 y) (hl : L.length ≤ 1048576) (hO1 : inW w 1048576 y0) (hG : Glob w) :
    Calls Tryd.prog 5 #[.slice A L.length c, .agg (encW y0).toArray] w fun e w' => e = .returned (.bool true) ∧ Below w.heap.size w w' := by
  have HL := Lib.hid (reg_in hS hO hl)
  have H1 := Lib.hid (man_in hO1)
  have HG := Lib.hid hG
  clear hS hO hG hl hO1
  have HB0 := Lib.hid (show Below w.heap.size w (w.alloc (.cells (encW y0).toArray 29)) from (Below.refl _ _).alloc (Nat.le_refl _) _)
  have Q0 := Lib.hid (Blk.new w 29 (encW y0).toArray)
  have cS := Lib.hid (fun W (hW : Below w.heap.size w W) => small_any A c L y0 W (HL.out.step hW) (H1.out.step hW))
  have HOK := Lib.hid (fun (h : smallP (regW L) ∧ smallP [plainW y0]) W (hW : Below w.heap.size w W) => (HL.out.ok h.1).step hW)
  have HOM := Lib.hid (fun (h : smallP (regW L) ∧ smallP [plainW y0]) => H1.out.ok h.2)
  have cX := Lib.hid (fun W (hW : Below w.heap.size w W) => example_any W (HG.out.keep hW))
  obtain ⟨rm, A0, c0, l0⟩ := y0
  simp only at cS HOM
  generalize (smallP (regW L) ∧ smallP [plainW (rm, A0, c0, l0)]) = P at cS HOK HOM
  simp only [encW] at Q0 HB0 ⊢
  go_enter Tryd.func5, Tryd.ntmps5
  go_wp2_with fail
  refine (cS.out _ HB0.out).mono ?_
  rintro e w1 ⟨b, rfl, hbi, hb1⟩
  have HB1 := Lib.hid (HB0.out.trans (hb1.mono HB0.out.size))
  have Q1 := Lib.hid (Q0.out.keep hb1)
  have HBI := Lib.hid hbi
  clear hb1 hbi cS
  cases b
  · go_wp2_with fail
    refine (cX.out _ HB1.out).mono ?_
    rintro e w2 ⟨rfl, hb2⟩
    have HB2 := Lib.hid (HB1.out.trans (hb2.mono HB1.out.size))
    clear hb2 cX
    go_wp2
    go_ret
    exact ⟨rfl, HB2.out⟩
  · have HP := Lib.hid (show P from by have h := HBI.out; simpa using h)
    clear HBI
    have HR := Lib.hid (fun W (hW : Below w.heap.size w W) => HOK.out HP.out W hW)
    have HM0 := Lib.hid (HOM.out HP.out)
    have hLl : L.length ≤ 100 := (HR.out _ (Below.refl _ _)).2.2
    have hl0 : l0.length ≤ 100 := HM0.out.2.1
    have hU : (univ (regW L) l0).length ≤ 10100 := by
      have h3 := univ_len (regW L) l0 (by simpa [regW] using hLl) (fun x hx => by
        obtain ⟨y, hy, rfl⟩ := List.mem_map.1 hx
        exact ((HR.out _ (Below.refl _ _)).2.1 y hy).2.1)
      omega
    have hbl := Nat.le_trans (buildP_len (regW L) rm l0) (Nat.succ_le_succ hU)
    have cB0 := fun W (hW : Below w.heap.size w W) => BuildList_any A c L (rm, A0, c0, l0) W (HR.out W hW) ((HM0.out.keep hW).more hW.size) (HG.out.keep hW)
    have cRe0 := Lib.hid (fun (p : List UInt8) W (hW : Below w.heap.size w W) => Reason_any A c L (rm, A0, c0, l0) p W (HR.out W hW) ((HM0.out.keep hW).more hW.size) (HG.out.keep hW))
    have HK0 : ∀ k (hk : k < (buildP (regW L) rm l0).1.length), 1 ≤ k → ∃ cc, reasonP (regW L) rm l0 (buildP (regW L) rm l0).1[k].1 = (cc, 0) ∧ Okc (regW L) l0 (buildP (regW L) rm l0).1[k] cc := by
      intro k hk hk1
      by_cases hb : (buildP (regW L) rm l0).2 = 0
      · obtain ⟨D, hB⟩ := built hb
        have e : (buildP (regW L) rm l0).1 = rm :: D := by rw [hB.eq]
        have hg : (buildP (regW L) rm l0).1[k] ∈ D := by
          simp only [e] at hk ⊢
          obtain ⟨j, rfl⟩ : ∃ j, k = j + 1 := ⟨k - 1, by omega⟩
          rw [List.getElem_cons_succ]
          exact List.getElem_mem _
        generalize (buildP (regW L) rm l0).1[k] = g at hg
        obtain ⟨y, s, h3, h4, h5⟩ := reason_ok hB hg
        have h6 := reason_len hB hg
        rw [h3] at h6
        exact ⟨y :: s, h3, by simp, by simp only at h6; omega, ⟨by simp, h4⟩, h5.last, h5.at⟩
      · have e := buildP_err hb
        rw [e] at hk
        simp at hk
    have HE0 : ∃ ef, reasonP (regW L) rm l0 rm.1 = ([], ef) ∧ ((buildP (regW L) rm l0).2 = 0 → ef = 7) ∧ ((buildP (regW L) rm l0).2 ≠ 0 → ef = (buildP (regW L) rm l0).2) := by
      by_cases hb : (buildP (regW L) rm l0).2 = 0
      · obtain ⟨D, hB⟩ := built hb
        exact ⟨7, reason_root hB, fun _ => rfl, fun h => absurd hb h⟩
      · exact ⟨_, reason_err hb, fun h => absurd h hb, fun _ => rfl⟩
    obtain ⟨ef, HE1, HE2, HE3⟩ := HE0
    simp only at cB0
    generalize buildP (regW L) rm l0 = B at cB0 HK0 HE2 HE3 hbl
    obtain ⟨bl, e1⟩ := B
    unfold RetB at cB0
    simp only at cB0 HK0 HE2 HE3 hbl
    have HK := Lib.hid HK0
    have cB := Lib.hid cB0
    have HEF1 := Lib.hid HE1
    have HEF2 := Lib.hid HE2
    have HEF3 := Lib.hid HE3
    clear cB0 HK0 HE1 HE2 HE3 HOK HOM
    obtain ⟨y0, y1, y2, y3, y4⟩ := manC Q1.out
    go_wp2_with fail
    refine (cB.out _ HB1.out).mono ?_
    rintro e w2 ⟨A2, c2, rfl, _, hS2, hb2⟩
    have HB2 := Lib.hid (HB1.out.trans (hb2.mono HB1.out.size))
    have Q2 := Lib.hid (Q1.out.keep hb2)
    have S2 := Lib.hid hS2
    clear hb2 y0 y1 y2 y3 y4 hS2 cB
    go_wp2_with fail
    go_loopw [7] (fun i wr => ∃ k : Nat, 1 ≤ k ∧ k ≤ bl.length + 1 ∧ i = .int .i64 (k : Nat) ∧ Hid (Below w2.heap.size w2 wr)) (fun i _ => bl.length + 1 - (intOf i).toNat)
    case atStart => exact ⟨1, Nat.le_refl _, Nat.succ_le_succ (Nat.zero_le _), rfl, Lib.hid (Below.refl _ _)⟩
    case round =>
      obtain ⟨wo, hwo⟩ : ∃ wo, wo = wr := ⟨_, rfl⟩
      subst hwo
      obtain ⟨k, hk1, hk, rfl, HB⟩ := hrel
      have HBN := Lib.hid (HB2.out.trans (HB.out.mono HB2.out.size))
      have Q3 := Lib.hid (Q2.out.keep HB.out)
      have S3 := Lib.hid ((S2.out.below HB.out).more HB.out.size)
      by_cases hlt : k < bl.length
      · have hlt' : (k : Int) < (bl.length : Int) := by omega
        have hk0 : (0 : Int) ≤ (k : Int) := by omega
        obtain ⟨pl, ol, hA2, hpl, g0, g1, g2, g3⟩ := S3.out.mod hlt
        obtain ⟨cc, hcc, hok⟩ := HK.out k hlt hk1
        generalize bl[k] = g at g0 g1 g2 g3 hcc hok
        have cRe1 := cRe0.out g.1
        rw [hcc] at cRe1
        unfold RetB at cRe1
        simp only at cRe1
        have cRe := Lib.hid (fun W (hW : Below wo.heap.size wo W) => (cRe1 W (HBN.out.trans (hW.mono HBN.out.size))).mono fun (e : Ending) (w' : World) ⟨A, c, he, _, hS, hb⟩ => (⟨A, c, he, hS, hb⟩ : ∃ (A : Option Addr) (c : Nat), e = Ending.returned (Value.tuple #[.slice A cc.length c, .int .i64 0]) ∧ Sl w' w'.heap.size 4 encM A cc ∧ Below W.heap.size W w'))
        have HOK := Lib.hid hok
        have hcp := hok.pos
        have hcl := hok.len
        have HA2 := Lib.hid hA2
        subst hA2
        obtain ⟨q0, q1, q2, q3, q4⟩ := manC (m := rm) (A := A0) (n := l0.length) (c := c0) Q3.out
        have hwz : w.heap.size < wo.heap.size := Q3.out.lt
        clear hcc hok cRe1
        go_upto_region 7 with fail
        apply wp_region_facts (by kernel_rfl) [isv _, isv _, isv _, isv _, isv _, isv _, isv _, (fun v W => ∃ (A : Option Addr) (c : Nat), v = .tuple #[.slice A cc.length c, .int .i64 0] ∧ Sl W W.heap.size 4 encM A cc), (fun v W => ∃ (A : Option Addr) (c : Nat), v = .tuple #[.slice A cc.length c, .int .i64 0] ∧ Sl W W.heap.size 4 encM A cc), (fun v W => ∃ (A : Option Addr) (c : Nat), v = .slice A cc.length c ∧ Sl W W.heap.size 4 encM A cc), isv _, (fun v W => ∃ (A : Option Addr) (c : Nat), v = .slice A cc.length c ∧ Sl W W.heap.size 4 encM A cc), isv _] wo.heap.size wo (Nat.le_refl _) (Below.refl _ _).drew (by kernel_rfl) (by kernel_rfl) (by kernel_rfl) (And.intro (isv_mono _) (And.intro (isv_mono _) (And.intro (isv_mono _) (And.intro (isv_mono _) (And.intro (isv_mono _) (And.intro (isv_mono _) (And.intro (isv_mono _) (And.intro (fun _ _ _ ⟨A, c, e, h1⟩ hb => ⟨A, c, e, (h1.below hb).more hb.size⟩) (And.intro (fun _ _ _ ⟨A, c, e, h1⟩ hb => ⟨A, c, e, (h1.below hb).more hb.size⟩) (And.intro (fun _ _ _ ⟨A, c, e, h1⟩ hb => ⟨A, c, e, (h1.below hb).more hb.size⟩) (And.intro (isv_mono _) (And.intro (fun _ _ _ ⟨A, c, e, h1⟩ hb => ⟨A, c, e, (h1.below hb).more hb.size⟩) (And.intro (isv_mono _) trivial))))))))))))) ?steps (by rfl) ?fin
        case steps =>
          refine (And.intro ?o0 (And.intro ?o1 (And.intro ?o2 (And.intro ?o3 (And.intro ?o4 (And.intro ?o5 (And.intro ?o6 (And.intro ?o7 (And.intro ?o8 (And.intro ?o9 (And.intro ?o10 (And.intro ?o11 (And.intro ?o12 trivial)))))))))))))
          case o0 =>
            intro AA W KK QQ hB hs hd hl hk
            have sl0 := hs 0 _ (by kernel_rfl) rfl
            clear hs hd hl
            go_simp
            exact hk _ _ rfl (Below.refl _ _)
          case o1 =>
            intro AA W KK QQ hB hs hd hl hk
            have sl3 := hs 3 _ (by kernel_rfl) rfl
            clear hs hd hl
            have hx0 := hB.cell (p := ⟨w.heap.size, 0, none⟩) hwz
            have hx1 := hB.cell (p := ⟨w.heap.size, 1, none⟩) hwz
            have hx2 := hB.cell (p := ⟨w.heap.size, 2, none⟩) hwz
            have hx3 := hB.cell (p := ⟨w.heap.size, 3, none⟩) hwz
            have hx4 := hB.cell (p := ⟨w.heap.size, 4, none⟩) hwz
            rw [q0] at hx0
            rw [q1] at hx1
            rw [q2] at hx2
            rw [q3] at hx3
            rw [q4] at hx4
            go_simp
            exact hk _ _ rfl (Below.refl _ _)
          case o2 =>
            intro AA W KK QQ hB hs hd hl hk
            have sl5 := hs 5 _ (by kernel_rfl) rfl
            clear hs hd hl
            go_simp
            exact hk _ _ rfl (Below.refl _ _)
          case o3 =>
            intro AA W KK QQ hB hs hd hl hk
            have sl7 := hs 7 _ (by kernel_rfl) rfl
            clear hs hd hl
            go_simp
            exact hk _ _ rfl (Below.refl _ _)
          case o4 =>
            intro AA W KK QQ hB hs hd hl hk
            obtain ⟨_, sl33, rfl⟩ := hd 2 33 (by kernel_rfl) rfl
            obtain ⟨_, sl34, rfl⟩ := hd 3 34 (by kernel_rfl) rfl
            clear hs hd hl
            go_simp
            exact hk _ _ rfl (Below.refl _ _)
          case o5 =>
            intro AA W KK QQ hB hs hd hl hk
            obtain ⟨_, sl35, rfl⟩ := hd 4 35 (by kernel_rfl) rfl
            clear hs hd hl
            go_simp
            exact hk _ _ rfl (Below.refl _ _)
          case o6 =>
            intro AA W KK QQ hB hs hd hl hk
            obtain ⟨_, sl36, rfl⟩ := hd 5 36 (by kernel_rfl) rfl
            clear hs hd hl
            have hx0 := hB.cell (p := ⟨pl, ol + k * 4, none⟩) hpl
            rw [g0] at hx0
            go_simp
            exact hk _ _ rfl (Below.refl _ _)
          case o7 =>
            intro AA W KK QQ hB hs hd hl hk
            obtain ⟨_, sl31, rfl⟩ := hd 0 31 (by kernel_rfl) rfl
            obtain ⟨_, sl32, rfl⟩ := hd 1 32 (by kernel_rfl) rfl
            obtain ⟨_, sl37, rfl⟩ := hd 6 37 (by kernel_rfl) rfl
            clear hs hd hl
            go_simp
            refine (cRe.out W hB).mono ?_
            rintro e W2 ⟨A, c, rfl, hS, hb2⟩
            exact hk _ _ ⟨A, c, rfl, hS⟩ hb2
          case o8 =>
            intro AA W KK QQ hB hs hd hl hk
            obtain ⟨_, sl38, ⟨A, c, rfl, hS⟩⟩ := hd 7 38 (by kernel_rfl) rfl
            clear hs hd hl
            go_simp
            exact hk _ _ ⟨A, c, rfl, hS⟩ (Below.refl _ _)
          case o9 =>
            intro AA W KK QQ hB hs hd hl hk
            obtain ⟨_, sl30, ⟨A, c, rfl, hS⟩⟩ := hd 8 30 (by kernel_rfl) rfl
            clear hs hd hl
            go_simp
            exact hk _ _ ⟨A, c, rfl, hS⟩ (Below.refl _ _)
          case o10 =>
            intro AA W KK QQ hB hs hd hl hk
            obtain ⟨_, sl30, ⟨A, c, rfl, hS⟩⟩ := hd 8 30 (by kernel_rfl) rfl
            clear hs hd hl
            go_simp
            exact hk _ _ rfl (Below.refl _ _)
          case o11 =>
            intro AA W KK QQ hB hs hd hl hk
            obtain ⟨_, sl39, ⟨A, c, rfl, hS⟩⟩ := hd 9 39 (by kernel_rfl) rfl
            clear hs hd hl
            go_simp
            exact hk _ _ ⟨A, c, rfl, hS⟩ (Below.refl _ _)
          case o12 =>
            intro AA W KK QQ hB hs hd hl hk
            obtain ⟨_, sl40, rfl⟩ := hd 10 40 (by kernel_rfl) rfl
            clear hs hd hl
            go_simp
            exact hk _ _ rfl (Below.refl _ _)
        case fin =>
          intro wf hB
          refine fin_isv 31 rfl ?_
          refine fin_isv 32 rfl ?_
          refine fin_isv 33 rfl ?_
          refine fin_isv 34 rfl ?_
          refine fin_isv 35 rfl ?_
          refine fin_isv 36 rfl ?_
          refine fin_isv 37 rfl ?_
          refine fin_fact 38 rfl ?_
          rintro _ ⟨_, _, rfl, _⟩
          refine fin_fact 30 rfl ?_
          rintro _ ⟨_, _, rfl, _⟩
          refine fin_fact 39 rfl ?_
          rintro _ ⟨_, _, rfl, _⟩
          refine fin_isv 40 rfl ?_
          refine fin_fact 8 rfl ?_
          rintro _ ⟨A3, c3, rfl, hS3⟩
          refine fin_isv 9 rfl ?_
          refine frame121_f4da19afe1 _ _ _ _ _ _ _ _ _ _ _ _ _ _ _ _ _ _ _ _ _ _ _ _ _ _ _ _ _ _ _ _ _ _ _ _ _ _ _ _ _ _ _ _ _ _ _ _ _ _ _ _ _ _ _ _ _ _ _ _ _ _ _ _ _ _ _ _ _ _ _ _ _ _ _ _ _ _ _ _ _ _ _ _ _ _ _ _ _ _ _ _ _ _ _ _ _ _ _ _ _ _ _ _ _ _ _ _ _ _ _ _ _ _ _ _ _ _ _ _ _ _ _ _ _ _ _ _ _ _ _ _ _ _ ?_
          have HBf := Lib.hid hB
          have HBo := Lib.hid (HB.out.trans (hB.mono HB.out.size))
          have HBNf := Lib.hid (HBN.out.trans (hB.mono HBN.out.size))
          have HS3 := Lib.hid hS3
          have h1p : 0 < cc.length := hcp
          obtain ⟨pc, oc, hA3, hpc, u0, u1, u2, u3⟩ := HS3.out.mod h1p
          obtain ⟨q, hq⟩ : ∃ q, q + 1 = cc.length := ⟨cc.length - 1, by omega⟩
          have hql : q < cc.length := by omega
          obtain ⟨pc', oc', hA3', _, v0, v1, v2, v3⟩ := HS3.out.mod hql
          obtain ⟨rfl, rfl⟩ : pc = pc' ∧ oc = oc' := by rw [hA3] at hA3'; injection hA3' with h; injection h with h1 h2; exact ⟨h1, h2⟩
          have hlast : cc[q] = g := by obtain ⟨_, h⟩ := HOK.out.last; rw [← h]; congr 1; omega
          have hfst : cc[0] ∈ l0 := HOK.out.fst.2
          rw [hlast] at v0 v1 v2 v3
          simp only [Nat.zero_mul, Nat.add_zero] at u0 u1 u2 u3
          generalize cc[0] = y at u0 u1 u2 u3 hfst
          have cHa := Lib.hid (fun W (hW : Below wf.heap.size wf W) => show Calls Tryd.prog 17 _ W (fun e w' => e = .returned (.bool true) ∧ Below W.heap.size W w') by
            have h := Has_any A0 c0 l0 y W (((HM0.out.1.below HBNf.out).more HBNf.out.size |>.below hW).more hW.size) (by omega)
            rw [decide_eq_true hfst] at h
            exact h)
          have hqw : IntKind.i64.wrap ((cc.length : Int) - 1) = (q : Int) := by simp [IntKind.wrap, IntKind.bits, IntKind.signed]; omega
          have hq0 : (0 : Int) ≤ (q : Int) := by omega
          have hqi : (q : Int) < (cc.length : Int) := by omega
          have hc0 : (0 : Int) < (cc.length : Int) := by omega
          have hcn : ((cc.length : Int) == 0) = false := beq_eq_false_iff_ne.2 (by omega)
          have heq := fun W => eq_mod g.1 g.1 g.2.1 g.2.2.1 g.2.2.2 g.2.1 g.2.2.1 g.2.2.2 W
          rw [decide_eq_true rfl] at heq
          have q4' := (hB.cell (p := ⟨w.heap.size, 4, none⟩) hwz).trans q4
          have e0 := (hB.cell (p := ⟨pl, ol + k * 4, none⟩) hpl).trans g0
          have e1' := (hB.cell (p := ⟨pl, ol + k * 4 + 1, none⟩) hpl).trans g1
          have e2' := (hB.cell (p := ⟨pl, ol + k * 4 + 2, none⟩) hpl).trans g2
          have e3' := (hB.cell (p := ⟨pl, ol + k * 4 + 3, none⟩) hpl).trans g3
          have hwz2 : w.heap.size < wf.heap.size := Nat.lt_of_lt_of_le hwz hB.size
          have hpl2 : pl < wf.heap.size := Nat.lt_of_lt_of_le hpl hB.size
          have HA3 := Lib.hid hA3
          subst hA3
          clear g0 g1 g2 g3 q0 q1 q2 q3 q4 hB hS3 hq hlast hfst hA3'
          have g0 := e0
          have g1 := e1'
          have g2 := e2'
          have g3 := e3'
          have q4 := q4'
          clear e0 e1' e2' e3' q4'
          go_upto_region 8 with fail
          apply wp_region_facts (by kernel_rfl) [isv _, isv _, isv _, isv _, isv _, isv _, isv _, isv _, isv _, isv _, isv _, isv _, isv _, isv _, isv _, isv _, isv _, isv _, isv _, isv _, isv _, isv _, isv _, isv _, isv _, isv _, isv _, isv _, isv _] wf.heap.size wf (Nat.le_refl _) (Below.refl _ _).drew (by kernel_rfl) (by kernel_rfl) (by kernel_rfl) (And.intro (isv_mono _) (And.intro (isv_mono _) (And.intro (isv_mono _) (And.intro (isv_mono _) (And.intro (isv_mono _) (And.intro (isv_mono _) (And.intro (isv_mono _) (And.intro (isv_mono _) (And.intro (isv_mono _) (And.intro (isv_mono _) (And.intro (isv_mono _) (And.intro (isv_mono _) (And.intro (isv_mono _) (And.intro (isv_mono _) (And.intro (isv_mono _) (And.intro (isv_mono _) (And.intro (isv_mono _) (And.intro (isv_mono _) (And.intro (isv_mono _) (And.intro (isv_mono _) (And.intro (isv_mono _) (And.intro (isv_mono _) (And.intro (isv_mono _) (And.intro (isv_mono _) (And.intro (isv_mono _) (And.intro (isv_mono _) (And.intro (isv_mono _) (And.intro (isv_mono _) (And.intro (isv_mono _) trivial))))))))))))))))))))))))))))) ?steps (by rfl) ?fin
          case steps =>
            refine (And.intro ?o0 (And.intro ?o1 (And.intro ?o2 (And.intro ?o3 (And.intro ?o4 (And.intro ?o5 (And.intro ?o6 (And.intro ?o7 (And.intro ?o8 (And.intro ?o9 (And.intro ?o10 (And.intro ?o11 (And.intro ?o12 (And.intro ?o13 (And.intro ?o14 (And.intro ?o15 (And.intro ?o16 (And.intro ?o17 (And.intro ?o18 (And.intro ?o19 (And.intro ?o20 (And.intro ?o21 (And.intro ?o22 (And.intro ?o23 (And.intro ?o24 (And.intro ?o25 (And.intro ?o26 (And.intro ?o27 (And.intro ?o28 trivial)))))))))))))))))))))))))))))
            case o0 =>
              intro AA W KK QQ hB hs hd hl hk
              have sl9 := hs 9 _ (by kernel_rfl) rfl
              clear hs hd hl
              go_simp
              exact hk _ _ rfl (Below.refl _ _)
            case o1 =>
              intro AA W KK QQ hB hs hd hl hk
              obtain ⟨_, sl41, rfl⟩ := hd 0 41 (by kernel_rfl) rfl
              clear hs hd hl
              go_simp
              exact hk _ _ rfl (Below.refl _ _)
            case o2 =>
              intro AA W KK QQ hB hs hd hl hk
              obtain ⟨_, sl42, rfl⟩ := hd 1 42 (by kernel_rfl) rfl
              clear hs hd hl
              go_simp
              exact hk _ _ rfl (Below.refl _ _)
            case o3 =>
              intro AA W KK QQ hB hs hd hl hk
              have sl8 := hs 8 _ (by kernel_rfl) rfl
              obtain ⟨_, sl43, rfl⟩ := hd 2 43 (by kernel_rfl) rfl
              clear hs hd hl
              refine ⟨_, _, rfl, sl43, ?_⟩
              first
                | (change Oper.wp _ _ _ _ _ _; go_simp; exact hk _ _ rfl (Below.refl _ _))
                | exact rfl
            case o4 =>
              intro AA W KK QQ hB hs hd hl hk
              obtain ⟨_, sl43, rfl⟩ := hd 2 43 (by kernel_rfl) rfl
              obtain ⟨_, sl44, rfl⟩ := hd 3 44 (by kernel_rfl) rfl
              clear hs hd hl
              refine ⟨_, _, rfl, sl43, ?_⟩
              first
                | (change Oper.wp _ _ _ _ _ _; go_simp; exact hk _ _ rfl (Below.refl _ _))
                | exact rfl
            case o5 =>
              intro AA W KK QQ hB hs hd hl hk
              obtain ⟨_, sl43, rfl⟩ := hd 2 43 (by kernel_rfl) rfl
              obtain ⟨_, sl45, rfl⟩ := hd 4 45 (by kernel_rfl) rfl
              clear hs hd hl
              refine ⟨_, _, rfl, sl43, ?_⟩
              first
                | (change Oper.wp _ _ _ _ _ _; go_simp; exact hk _ _ rfl (Below.refl _ _))
                | exact rfl
            case o6 =>
              intro AA W KK QQ hB hs hd hl hk
              obtain ⟨_, sl43, rfl⟩ := hd 2 43 (by kernel_rfl) rfl
              obtain ⟨_, sl46, rfl⟩ := hd 5 46 (by kernel_rfl) rfl
              clear hs hd hl
              go_simp
              exact hk _ _ rfl (Below.refl _ _)
            case o7 =>
              intro AA W KK QQ hB hs hd hl hk
              obtain ⟨_, sl47, rfl⟩ := hd 6 47 (by kernel_rfl) rfl
              clear hs hd hl
              go_simp
              exact hk _ _ rfl (Below.refl _ _)
            case o8 =>
              intro AA W KK QQ hB hs hd hl hk
              have sl3 := hs 3 _ (by kernel_rfl) rfl
              obtain ⟨_, sl48, rfl⟩ := hd 7 48 (by kernel_rfl) rfl
              clear hs hd hl
              refine ⟨_, _, rfl, sl48, ?_⟩
              first
                | (change Oper.wp _ _ _ _ _ _; go_simp; exact hk _ _ rfl (Below.refl _ _))
                | exact rfl
            case o9 =>
              intro AA W KK QQ hB hs hd hl hk
              obtain ⟨_, sl48, rfl⟩ := hd 7 48 (by kernel_rfl) rfl
              obtain ⟨_, sl49, rfl⟩ := hd 8 49 (by kernel_rfl) rfl
              clear hs hd hl
              have hx4 := hB.cell (p := ⟨w.heap.size, 4, none⟩) hwz2
              rw [q4] at hx4
              refine ⟨_, _, rfl, sl48, ?_⟩
              first
                | (change Oper.wp _ _ _ _ _ _; go_simp; exact hk _ _ rfl (Below.refl _ _))
                | exact rfl
            case o10 =>
              intro AA W KK QQ hB hs hd hl hk
              have sl8 := hs 8 _ (by kernel_rfl) rfl
              obtain ⟨_, sl48, rfl⟩ := hd 7 48 (by kernel_rfl) rfl
              clear hs hd hl
              refine ⟨_, _, rfl, sl48, ?_⟩
              first
                | (change Oper.wp _ _ _ _ _ _; go_simp; exact hk _ _ rfl (Below.refl _ _))
                | exact rfl
            case o11 =>
              intro AA W KK QQ hB hs hd hl hk
              obtain ⟨_, sl48, rfl⟩ := hd 7 48 (by kernel_rfl) rfl
              obtain ⟨_, sl51, rfl⟩ := hd 10 51 (by kernel_rfl) rfl
              clear hs hd hl
              refine ⟨_, _, rfl, sl48, ?_⟩
              first
                | (change Oper.wp _ _ _ _ _ _; go_simp; exact hk _ _ rfl (Below.refl _ _))
                | exact rfl
            case o12 =>
              intro AA W KK QQ hB hs hd hl hk
              obtain ⟨_, sl48, rfl⟩ := hd 7 48 (by kernel_rfl) rfl
              obtain ⟨_, sl52, rfl⟩ := hd 11 52 (by kernel_rfl) rfl
              clear hs hd hl
              have hx0 := hB.cell (p := ⟨pc, oc, none⟩) hpc
              have hx1 := hB.cell (p := ⟨pc, oc + 1, none⟩) hpc
              have hx2 := hB.cell (p := ⟨pc, oc + 2, none⟩) hpc
              have hx3 := hB.cell (p := ⟨pc, oc + 3, none⟩) hpc
              rw [u0] at hx0
              rw [u1] at hx1
              rw [u2] at hx2
              rw [u3] at hx3
              refine ⟨_, _, rfl, sl48, ?_⟩
              first
                | (change Oper.wp _ _ _ _ _ _; go_simp; exact hk _ _ rfl (Below.refl _ _))
                | exact rfl
            case o13 =>
              intro AA W KK QQ hB hs hd hl hk
              obtain ⟨_, sl48, rfl⟩ := hd 7 48 (by kernel_rfl) rfl
              obtain ⟨_, sl50, rfl⟩ := hd 9 50 (by kernel_rfl) rfl
              obtain ⟨_, sl53, rfl⟩ := hd 12 53 (by kernel_rfl) rfl
              clear hs hd hl
              refine ⟨_, _, rfl, sl48, ?_⟩
              change Oper.wp _ _ _ _ _ _
              go_simp
              refine (cHa.out W hB).mono ?_
              rintro e W2 ⟨rfl, hb2⟩
              exact hk _ _ rfl hb2
            case o14 =>
              intro AA W KK QQ hB hs hd hl hk
              obtain ⟨_, sl48, rfl⟩ := hd 7 48 (by kernel_rfl) rfl
              obtain ⟨_, sl54, rfl⟩ := hd 13 54 (by kernel_rfl) rfl
              clear hs hd hl
              refine ⟨_, _, rfl, sl48, ?_⟩
              first
                | (change Oper.wp _ _ _ _ _ _; go_simp; exact hk _ _ rfl (Below.refl _ _))
                | exact rfl
            case o15 =>
              intro AA W KK QQ hB hs hd hl hk
              obtain ⟨_, sl48, rfl⟩ := hd 7 48 (by kernel_rfl) rfl
              obtain ⟨_, sl55, rfl⟩ := hd 14 55 (by kernel_rfl) rfl
              clear hs hd hl
              go_simp
              exact hk _ _ rfl (Below.refl _ _)
            case o16 =>
              intro AA W KK QQ hB hs hd hl hk
              obtain ⟨_, sl56, rfl⟩ := hd 15 56 (by kernel_rfl) rfl
              clear hs hd hl
              go_simp
              exact hk _ _ rfl (Below.refl _ _)
            case o17 =>
              intro AA W KK QQ hB hs hd hl hk
              have sl8 := hs 8 _ (by kernel_rfl) rfl
              obtain ⟨_, sl57, rfl⟩ := hd 16 57 (by kernel_rfl) rfl
              clear hs hd hl
              refine ⟨_, _, rfl, sl57, ?_⟩
              first
                | (change Oper.wp _ _ _ _ _ _; go_simp; exact hk _ _ rfl (Below.refl _ _))
                | exact rfl
            case o18 =>
              intro AA W KK QQ hB hs hd hl hk
              have sl8 := hs 8 _ (by kernel_rfl) rfl
              obtain ⟨_, sl57, rfl⟩ := hd 16 57 (by kernel_rfl) rfl
              clear hs hd hl
              refine ⟨_, _, rfl, sl57, ?_⟩
              first
                | (change Oper.wp _ _ _ _ _ _; go_simp; exact hk _ _ rfl (Below.refl _ _))
                | exact rfl
            case o19 =>
              intro AA W KK QQ hB hs hd hl hk
              obtain ⟨_, sl57, rfl⟩ := hd 16 57 (by kernel_rfl) rfl
              obtain ⟨_, sl59, rfl⟩ := hd 18 59 (by kernel_rfl) rfl
              clear hs hd hl
              refine ⟨_, _, rfl, sl57, ?_⟩
              first
                | (change Oper.wp _ _ _ _ _ _; go_simp; exact hk _ _ rfl (Below.refl _ _))
                | exact rfl
            case o20 =>
              intro AA W KK QQ hB hs hd hl hk
              obtain ⟨_, sl57, rfl⟩ := hd 16 57 (by kernel_rfl) rfl
              obtain ⟨_, sl60, rfl⟩ := hd 19 60 (by kernel_rfl) rfl
              clear hs hd hl
              refine ⟨_, _, rfl, sl57, ?_⟩
              first
                | (change Oper.wp _ _ _ _ _ _; go_simp; exact hk _ _ rfl (Below.refl _ _))
                | exact rfl
            case o21 =>
              intro AA W KK QQ hB hs hd hl hk
              obtain ⟨_, sl57, rfl⟩ := hd 16 57 (by kernel_rfl) rfl
              obtain ⟨_, sl58, rfl⟩ := hd 17 58 (by kernel_rfl) rfl
              obtain ⟨_, sl61, rfl⟩ := hd 20 61 (by kernel_rfl) rfl
              clear hs hd hl
              refine ⟨_, _, rfl, sl57, ?_⟩
              first
                | (change Oper.wp _ _ _ _ _ _; go_simp; exact hk _ _ rfl (Below.refl _ _))
                | exact rfl
            case o22 =>
              intro AA W KK QQ hB hs hd hl hk
              obtain ⟨_, sl57, rfl⟩ := hd 16 57 (by kernel_rfl) rfl
              obtain ⟨_, sl62, rfl⟩ := hd 21 62 (by kernel_rfl) rfl
              clear hs hd hl
              have hx0 := hB.cell (p := ⟨pc, oc + q * 4, none⟩) hpc
              have hx1 := hB.cell (p := ⟨pc, oc + q * 4 + 1, none⟩) hpc
              have hx2 := hB.cell (p := ⟨pc, oc + q * 4 + 2, none⟩) hpc
              have hx3 := hB.cell (p := ⟨pc, oc + q * 4 + 3, none⟩) hpc
              rw [v0] at hx0
              rw [v1] at hx1
              rw [v2] at hx2
              rw [v3] at hx3
              refine ⟨_, _, rfl, sl57, ?_⟩
              first
                | (change Oper.wp _ _ _ _ _ _; go_simp; exact hk _ _ rfl (Below.refl _ _))
                | exact rfl
            case o23 =>
              intro AA W KK QQ hB hs hd hl hk
              have sl5 := hs 5 _ (by kernel_rfl) rfl
              obtain ⟨_, sl57, rfl⟩ := hd 16 57 (by kernel_rfl) rfl
              clear hs hd hl
              refine ⟨_, _, rfl, sl57, ?_⟩
              first
                | (change Oper.wp _ _ _ _ _ _; go_simp; exact hk _ _ rfl (Below.refl _ _))
                | exact rfl
            case o24 =>
              intro AA W KK QQ hB hs hd hl hk
              have sl7 := hs 7 _ (by kernel_rfl) rfl
              obtain ⟨_, sl57, rfl⟩ := hd 16 57 (by kernel_rfl) rfl
              clear hs hd hl
              refine ⟨_, _, rfl, sl57, ?_⟩
              first
                | (change Oper.wp _ _ _ _ _ _; go_simp; exact hk _ _ rfl (Below.refl _ _))
                | exact rfl
            case o25 =>
              intro AA W KK QQ hB hs hd hl hk
              obtain ⟨_, sl57, rfl⟩ := hd 16 57 (by kernel_rfl) rfl
              obtain ⟨_, sl64, rfl⟩ := hd 23 64 (by kernel_rfl) rfl
              obtain ⟨_, sl65, rfl⟩ := hd 24 65 (by kernel_rfl) rfl
              clear hs hd hl
              refine ⟨_, _, rfl, sl57, ?_⟩
              first
                | (change Oper.wp _ _ _ _ _ _; go_simp; exact hk _ _ rfl (Below.refl _ _))
                | exact rfl
            case o26 =>
              intro AA W KK QQ hB hs hd hl hk
              obtain ⟨_, sl57, rfl⟩ := hd 16 57 (by kernel_rfl) rfl
              obtain ⟨_, sl66, rfl⟩ := hd 25 66 (by kernel_rfl) rfl
              clear hs hd hl
              have hx0 := hB.cell (p := ⟨pl, ol + k * 4, none⟩) hpl2
              have hx1 := hB.cell (p := ⟨pl, ol + k * 4 + 1, none⟩) hpl2
              have hx2 := hB.cell (p := ⟨pl, ol + k * 4 + 2, none⟩) hpl2
              have hx3 := hB.cell (p := ⟨pl, ol + k * 4 + 3, none⟩) hpl2
              rw [g0] at hx0
              rw [g1] at hx1
              rw [g2] at hx2
              rw [g3] at hx3
              refine ⟨_, _, rfl, sl57, ?_⟩
              first
                | (change Oper.wp _ _ _ _ _ _; go_simp; exact hk _ _ rfl (Below.refl _ _))
                | exact rfl
            case o27 =>
              intro AA W KK QQ hB hs hd hl hk
              obtain ⟨_, sl57, rfl⟩ := hd 16 57 (by kernel_rfl) rfl
              obtain ⟨_, sl63, rfl⟩ := hd 22 63 (by kernel_rfl) rfl
              obtain ⟨_, sl67, rfl⟩ := hd 26 67 (by kernel_rfl) rfl
              clear hs hd hl
              refine ⟨_, _, rfl, sl57, ?_⟩
              first
                | (change Oper.wp _ _ _ _ _ _; go_simp; exact hk _ _ rfl (Below.refl _ _))
                | exact rfl
            case o28 =>
              intro AA W KK QQ hB hs hd hl hk
              obtain ⟨_, sl57, rfl⟩ := hd 16 57 (by kernel_rfl) rfl
              obtain ⟨_, sl68, rfl⟩ := hd 27 68 (by kernel_rfl) rfl
              clear hs hd hl
              go_simp
              exact hk _ _ rfl (Below.refl _ _)
          case fin =>
            intro wg hB
            refine fin_isv 41 rfl ?_
            refine fin_isv 42 rfl ?_
            refine fin_isv 43 rfl ?_
            refine fin_isv 44 rfl ?_
            refine fin_isv 45 rfl ?_
            refine fin_isv 46 rfl ?_
            refine fin_isv 47 rfl ?_
            refine fin_isv 48 rfl ?_
            refine fin_isv 49 rfl ?_
            refine fin_isv 50 rfl ?_
            refine fin_isv 51 rfl ?_
            refine fin_isv 52 rfl ?_
            refine fin_isv 53 rfl ?_
            refine fin_isv 54 rfl ?_
            refine fin_isv 55 rfl ?_
            refine fin_isv 56 rfl ?_
            refine fin_isv 57 rfl ?_
            refine fin_isv 58 rfl ?_
            refine fin_isv 59 rfl ?_
            refine fin_isv 60 rfl ?_
            refine fin_isv 61 rfl ?_
            refine fin_isv 62 rfl ?_
            refine fin_isv 63 rfl ?_
            refine fin_isv 64 rfl ?_
            refine fin_isv 65 rfl ?_
            refine fin_isv 66 rfl ?_
            refine fin_isv 67 rfl ?_
            refine fin_isv 68 rfl ?_
            refine fin_isv 69 rfl ?_
            refine frame121_04075729f1 _ _ _ _ _ _ _ _ _ _ _ _ _ _ _ _ _ _ _ _ _ _ _ _ _ _ _ _ _ _ _ _ _ _ _ _ _ _ _ _ _ _ _ _ _ _ _ _ _ _ _ _ _ _ _ _ _ _ _ _ _ _ _ _ _ _ _ _ _ _ _ _ _ _ _ _ _ _ _ _ _ _ _ _ _ _ _ _ _ _ _ _ _ _ _ _ _ _ _ _ _ _ _ _ _ _ _ _ _ _ _ _ _ _ _ _ _ _ _ _ _ _ _ _ _ _ _ _ _ _ _ _ _ _ _ _ _ _ _ _ _ _ _ _ _ _ _ _ _ _ ?_
            have HBg := Lib.hid (HBo.out.trans (hB.mono HBo.out.size))
            have HBNg := Lib.hid (HBNf.out.trans (hB.mono HBNf.out.size))
            have HSg := Lib.hid ((HS3.out.below hB).more hB.size)
            clear hB u0 u1 u2 u3 v0 v1 v2 v3 g0 g1 g2 g3 q4
            go_wp2_with fail
            go_loopw [10] (fun i wr => ∃ j : Nat, 1 ≤ j ∧ j ≤ cc.length ∧ i = .int .i64 (j : Nat) ∧ Hid (Below wg.heap.size wg wr)) (fun i _ => cc.length + 1 - (intOf i).toNat)
            case atStart => exact ⟨1, Nat.le_refl _, hcp, rfl, Lib.hid (Below.refl _ _)⟩
            case round =>
              obtain ⟨wk, hwk⟩ : ∃ wk, wk = wr := ⟨_, rfl⟩
              subst hwk
              obtain ⟨j, hj1, hj, rfl, HBk⟩ := hrel
              have HBNk := Lib.hid (HBNg.out.trans (HBk.out.mono HBNg.out.size))
              have HSk := Lib.hid ((HSg.out.below HBk.out).more HBk.out.size)
              by_cases hjl : j < cc.length
              · have hjl' : (j : Int) < (cc.length : Int) := by omega
                have hj0 : (0 : Int) ≤ (j : Int) := by omega
                obtain ⟨p, hp⟩ : ∃ p, p + 1 = j := ⟨j - 1, by omega⟩
                have hpj : p < cc.length := by omega
                have hpi : (p : Int) < (cc.length : Int) := by omega
                have hp0 : (0 : Int) ≤ (p : Int) := by omega
                have hpw : IntKind.i64.wrap ((j : Int) - 1) = (p : Int) := by simp [IntKind.wrap, IntKind.bits, IntKind.signed]; omega
                have hst : cc[j] ∈ reqOf (regW L) cc[p] := by
                  have h := HOK.out.step p (by omega)
                  subst hp
                  exact h
                obtain ⟨pc2, oc2, hA4, hpc, u0, u1, u2, u3⟩ := HSk.out.mod hpj
                obtain ⟨rfl, rfl⟩ : pc = pc2 ∧ oc = oc2 := by injection hA4 with h; injection h with h1 h2; exact ⟨h1, h2⟩
                obtain ⟨pc2, oc2, hA5, _, v0, v1, v2, v3⟩ := HSk.out.mod hjl
                obtain ⟨rfl, rfl⟩ : pc = pc2 ∧ oc = oc2 := by injection hA5 with h; injection h with h1 h2; exact ⟨h1, h2⟩
                generalize cc[p] = ma at u0 u1 u2 u3 hst
                generalize cc[j] = mb at v0 v1 v2 v3 hst
                have hrl : (reqOf (regW L) ma).length ≤ 10100 := Nat.le_trans (reqOf_len (regW L) l0 ma) hU
                have cRq0 := fun W (hW : Below wk.heap.size wk W) => Requires_any A c L ma W (HR.out W (HBNk.out.trans (hW.mono HBNk.out.size)))
                generalize reqOf (regW L) ma = rq at hst cRq0 hrl
                have cRq := Lib.hid cRq0
                have cHq := Lib.hid (fun (A9 : Option Addr) (c9 : Nat) W (_ : Below wk.heap.size wk W) (hS : Sl W W.heap.size 4 encM A9 rq) => show Calls Tryd.prog 17 _ W (fun e w' => e = .returned (.bool true) ∧ Below W.heap.size W w') by
                  have h := Has_any A9 c9 rq mb W hS (by omega)
                  rw [decide_eq_true hst] at h
                  exact h)
                clear hp hA4 hA5 hst cRq0
                go_upto_region 13 with fail
                apply wp_region_facts (by kernel_rfl) [isv _, isv _, isv _, isv _, isv _, isv _, (fun v W => ∃ (A : Option Addr) (c : Nat), v = .slice A rq.length c ∧ Sl W W.heap.size 4 encM A rq), isv _, isv _, isv _, isv _, isv _, isv _] wk.heap.size wk (Nat.le_refl _) (Below.refl _ _).drew (by kernel_rfl) (by kernel_rfl) (by kernel_rfl) (And.intro (isv_mono _) (And.intro (isv_mono _) (And.intro (isv_mono _) (And.intro (isv_mono _) (And.intro (isv_mono _) (And.intro (isv_mono _) (And.intro (fun _ _ _ ⟨A, c, e, h1⟩ hb => ⟨A, c, e, (h1.below hb).more hb.size⟩) (And.intro (isv_mono _) (And.intro (isv_mono _) (And.intro (isv_mono _) (And.intro (isv_mono _) (And.intro (isv_mono _) (And.intro (isv_mono _) trivial))))))))))))) ?steps (by rfl) ?fin
                case steps =>
                  refine (And.intro ?o0 (And.intro ?o1 (And.intro ?o2 (And.intro ?o3 (And.intro ?o4 (And.intro ?o5 (And.intro ?o6 (And.intro ?o7 (And.intro ?o8 (And.intro ?o9 (And.intro ?o10 (And.intro ?o11 (And.intro ?o12 trivial)))))))))))))
                  case o0 =>
                    intro AA W KK QQ hB hs hd hl hk
                    have sl0 := hs 0 _ (by kernel_rfl) rfl
                    clear hs hd hl
                    go_simp
                    exact hk _ _ rfl (Below.refl _ _)
                  case o1 =>
                    intro AA W KK QQ hB hs hd hl hk
                    have sl8 := hs 8 _ (by kernel_rfl) rfl
                    clear hs hd hl
                    go_simp
                    exact hk _ _ rfl (Below.refl _ _)
                  case o2 =>
                    intro AA W KK QQ hB hs hd hl hk
                    have sl10 := hs 10 _ (by kernel_rfl) rfl
                    clear hs hd hl
                    go_simp
                    exact hk _ _ rfl (Below.refl _ _)
                  case o3 =>
                    intro AA W KK QQ hB hs hd hl hk
                    obtain ⟨_, sl78, rfl⟩ := hd 2 78 (by kernel_rfl) rfl
                    clear hs hd hl
                    go_simp
                    exact hk _ _ rfl (Below.refl _ _)
                  case o4 =>
                    intro AA W KK QQ hB hs hd hl hk
                    obtain ⟨_, sl77, rfl⟩ := hd 1 77 (by kernel_rfl) rfl
                    obtain ⟨_, sl79, rfl⟩ := hd 3 79 (by kernel_rfl) rfl
                    clear hs hd hl
                    go_simp
                    exact hk _ _ rfl (Below.refl _ _)
                  case o5 =>
                    intro AA W KK QQ hB hs hd hl hk
                    obtain ⟨_, sl80, rfl⟩ := hd 4 80 (by kernel_rfl) rfl
                    clear hs hd hl
                    have hx0 := hB.cell (p := ⟨pc, oc + p * 4, none⟩) hpc
                    have hx1 := hB.cell (p := ⟨pc, oc + p * 4 + 1, none⟩) hpc
                    have hx2 := hB.cell (p := ⟨pc, oc + p * 4 + 2, none⟩) hpc
                    have hx3 := hB.cell (p := ⟨pc, oc + p * 4 + 3, none⟩) hpc
                    rw [u0] at hx0
                    rw [u1] at hx1
                    rw [u2] at hx2
                    rw [u3] at hx3
                    go_simp
                    exact hk _ _ rfl (Below.refl _ _)
                  case o6 =>
                    intro AA W KK QQ hB hs hd hl hk
                    obtain ⟨_, sl76, rfl⟩ := hd 0 76 (by kernel_rfl) rfl
                    obtain ⟨_, sl81, rfl⟩ := hd 5 81 (by kernel_rfl) rfl
                    clear hs hd hl
                    go_simp
                    refine (cRq.out W hB).mono ?_
                    rintro e W2 ⟨A, c, rfl, hS, hb2⟩
                    exact hk _ _ ⟨A, c, rfl, hS⟩ hb2
                  case o7 =>
                    intro AA W KK QQ hB hs hd hl hk
                    have sl8 := hs 8 _ (by kernel_rfl) rfl
                    clear hs hd hl
                    go_simp
                    exact hk _ _ rfl (Below.refl _ _)
                  case o8 =>
                    intro AA W KK QQ hB hs hd hl hk
                    have sl10 := hs 10 _ (by kernel_rfl) rfl
                    clear hs hd hl
                    go_simp
                    exact hk _ _ rfl (Below.refl _ _)
                  case o9 =>
                    intro AA W KK QQ hB hs hd hl hk
                    obtain ⟨_, sl83, rfl⟩ := hd 7 83 (by kernel_rfl) rfl
                    obtain ⟨_, sl84, rfl⟩ := hd 8 84 (by kernel_rfl) rfl
                    clear hs hd hl
                    go_simp
                    exact hk _ _ rfl (Below.refl _ _)
                  case o10 =>
                    intro AA W KK QQ hB hs hd hl hk
                    obtain ⟨_, sl85, rfl⟩ := hd 9 85 (by kernel_rfl) rfl
                    clear hs hd hl
                    have hx0 := hB.cell (p := ⟨pc, oc + j * 4, none⟩) hpc
                    have hx1 := hB.cell (p := ⟨pc, oc + j * 4 + 1, none⟩) hpc
                    have hx2 := hB.cell (p := ⟨pc, oc + j * 4 + 2, none⟩) hpc
                    have hx3 := hB.cell (p := ⟨pc, oc + j * 4 + 3, none⟩) hpc
                    rw [v0] at hx0
                    rw [v1] at hx1
                    rw [v2] at hx2
                    rw [v3] at hx3
                    go_simp
                    exact hk _ _ rfl (Below.refl _ _)
                  case o11 =>
                    intro AA W KK QQ hB hs hd hl hk
                    obtain ⟨_, sl82, ⟨A, c, rfl, hS⟩⟩ := hd 6 82 (by kernel_rfl) rfl
                    obtain ⟨_, sl86, rfl⟩ := hd 10 86 (by kernel_rfl) rfl
                    clear hs hd hl
                    go_simp
                    refine (cHq.out A c W hB hS).mono ?_
                    rintro e W2 ⟨rfl, hb2⟩
                    exact hk _ _ rfl hb2
                  case o12 =>
                    intro AA W KK QQ hB hs hd hl hk
                    obtain ⟨_, sl87, rfl⟩ := hd 11 87 (by kernel_rfl) rfl
                    clear hs hd hl
                    go_simp
                    exact hk _ _ rfl (Below.refl _ _)
                case fin =>
                  intro wh hB
                  refine fin_isv 76 rfl ?_
                  refine fin_isv 77 rfl ?_
                  refine fin_isv 78 rfl ?_
                  refine fin_isv 79 rfl ?_
                  refine fin_isv 80 rfl ?_
                  refine fin_isv 81 rfl ?_
                  refine fin_fact 82 rfl ?_
                  rintro _ ⟨_, _, rfl, _⟩
                  refine fin_isv 83 rfl ?_
                  refine fin_isv 84 rfl ?_
                  refine fin_isv 85 rfl ?_
                  refine fin_isv 86 rfl ?_
                  refine fin_isv 87 rfl ?_
                  refine fin_isv 88 rfl ?_
                  refine frame121_1ea8b7004c _ _ _ _ _ _ _ _ _ _ _ _ _ _ _ _ _ _ _ _ _ _ _ _ _ _ _ _ _ _ _ _ _ _ _ _ _ _ _ _ _ _ _ _ _ _ _ _ _ _ _ _ _ _ _ _ _ _ _ _ _ _ _ _ _ _ _ _ _ _ _ _ _ _ _ _ _ _ _ _ _ _ _ _ _ _ _ _ _ _ _ _ _ _ _ _ _ _ _ _ _ _ _ _ _ _ _ _ _ _ _ _ _ _ _ _ _ _ _ _ _ _ _ _ _ _ _ _ _ _ _ _ _ _ ?_
                  have HBh := Lib.hid (HBk.out.trans (hB.mono HBk.out.size))
                  clear hB
                  go_wp2
                  go_roundw
                  case rel => exact ⟨j + 1, by omega, by omega, by go_num, HBh⟩
                  case measure => simp [intOf]; omega
              · have HBz := Lib.hid (HBg.out.trans (HBk.out.mono HBg.out.size))
                go_wp2
                go_roundw
                case rel => exact ⟨k + 1, by omega, by omega, by go_num, HBz⟩
                case measure => simp [intOf]; omega
      · have hnl : ¬ (k : Int) < (bl.length : Int) := by omega
        have cRe1 := cRe0.out rm.1 wo HBN.out
        rw [HEF1.out] at cRe1
        unfold RetB at cRe1
        simp only at cRe1
        have cRe := Lib.hid cRe1
        obtain ⟨q0, q1, q2, q3, q4⟩ := manC (m := rm) (A := A0) (n := l0.length) (c := c0) Q3.out
        clear cRe1
        go_wp2_with fail
        refine cRe.out.mono ?_
        rintro e w5 ⟨A5, c5, rfl, _, _, hb5⟩
        have HB5 := Lib.hid (HBN.out.trans (hb5.mono HBN.out.size))
        clear hb5 cRe q0 q1 q2 q3 q4
        by_cases he1 : e1 = 0
        · have hef : ef = 7 := HEF2.out he1
          subst he1 hef
          go_wp2_with fail
          refine (cX.out _ HB5.out).mono ?_
          rintro e w20 ⟨rfl, hb20⟩
          have HBF := Lib.hid (HB5.out.trans (hb20.mono HB5.out.size))
          clear hb20 cX
          go_wp2
          go_ret
          exact ⟨rfl, HBF.out⟩
        · have hef : ef = e1 := HEF3.out he1
          subst hef
          have he : (ef != 0) = true := by simpa using he1
          have he' : (ef == 0) = false := by simpa using he1
          clear he1
          go_wp2_with fail
          refine (cX.out _ HB5.out).mono ?_
          rintro e w20 ⟨rfl, hb20⟩
          have HBF := Lib.hid (HB5.out.trans (hb20.mono HB5.out.size))
          clear hb20 cX
          go_wp2
          go_ret
          exact ⟨rfl, HBF.out⟩

set_option maxRecDepth 100000 in
theorem contract (H : Type) (enc : TypeId × Value → H) (W : World) (base : Nat) (args : Array Value) (ds gs : List (DataW H)) (before : List MemPlace)
    (hval : ∀ (j : Nat) t v, Tryd.f5.params[j]? = some t → args[j]? = some v → Value.okWide Tryd.prog W .any base t v)
    (hW : DataW.Whole enc Tryd.prog Tryd.f5.params.toList Rows.selectionChainsSpec.vars false W args.toList ds gs before) (hk : Rows.uptoSmall H (ds ++ gs) = true) (hG : Glob W) :
    Calls Tryd.prog 5 args W fun e W' => ∃ v, e = .returned v ∧ Rows.selectionChainsSpec.post enc Tryd.prog Tryd.f5 false true false false W args v W' := by
  have hW' := hW
  obtain ⟨p, q, hA0, hV, rfl, hfz, hnd⟩ := hW
  have hA : DataW.TrodAll enc Tryd.prog W 0 (fun _ => true) true Tryd.f5.params.toList args.toList ds p := hA0
  rw [Tryd.params5] at hA hval
  obtain ⟨v0, vs0, d0, ds0, p0, q0, hargs, rfl, rfl, h0, r0⟩ := trodAll_cons hA
  obtain ⟨v1, vs1, d1, ds1, p1, q1, rfl, rfl, rfl, h1, r1⟩ := trodAll_cons r0
  obtain ⟨rfl, rfl, rfl⟩ := trodAll_nil r1
  obtain rfl : args = #[v0, v1] := by cases args; simp_all
  obtain ⟨rfl, rfl⟩ := trodVars_none hV
  obtain ⟨A0, c0, L0, rfl, hS0, hO0, _, hN0⟩ := open_sl Tryd.underlying22 (opens_manifests W 1048576) (hval 0 22 v0 rfl rfl) h0 (by have := bulk_of hk; simp only [List.append_nil, Rows.uptoBulkAll] at this; omega)
  have hl0 : L0.length ≤ 1048576 := by omega
  obtain ⟨r1x, rfl, hO1⟩ := open_st Tryd.underlying29 (opens_manifest W 1048576) (hval 1 29 v1 rfl rfl) h1 (by have := bulk_of hk; simp only [List.append_nil, Rows.uptoBulkAll] at this; omega)
  clear hA0
  have hw := walk A0 c0 L0 r1x W hS0 hO0 hl0 hO1 hG
  refine hw.mono fun e W' ⟨he, hb⟩ => ?_
  subst he
  exact ⟨_, rfl, law_post hW' rfl (by kernel_rfl) (by kernel_rfl) rfl rfl rfl hb⟩

set_option maxRecDepth 100000 in
theorem reads (os : Os) {H : Type} (enc : TypeId × Value → H) : ∃ places, DataW.whole enc Tryd.prog ((laidWorld os).forCall (fun _ _ => 0) ⟨#[], #[.slice none 0 0, .agg #[.string ByteArray.empty, .int .i64 0, .int .i64 0, .int .i64 0, .slice none 0 0]], []⟩).memory Tryd.f5.params.toList Rows.selectionChainsSpec.vars false (#[.slice none 0 0, .agg #[.string ByteArray.empty, .int .i64 0, .int .i64 0, .int .i64 0, .slice none 0 0]] : Array Value).toList 8 = some ([.nil, .agg [.agg [.lit (.string []), .agg [.lit (.int .i64 0), .lit (.int .i64 0), .lit (.int .i64 0)]], .nil]], [], places) :=
  ⟨[], by kernel_rfl⟩

set_option maxRecDepth 100000 in
theorem lifted (os : Os) (started : os.Started) (H : Type) (enc : TypeId × Value → H) (F : Stop.Interp) :
    ReturnsInHanded {} Tryd.checked os 5 .any ((Rows.OpenSpec.upto Rows.selectionChainsSpec).preRow enc Tryd.prog Tryd.f5 Rows.selectionChainsUptoRow.domain false Rows.selectionChainsUptoRow.laid) (((Rows.OpenSpec.upto Rows.selectionChainsSpec).at F).post enc Tryd.prog Tryd.f5 false true false false) := by
  obtain ⟨places, hx⟩ := reads os enc
  refine returnsInHanded_of_row (C := Tryd.checked) (s := Rows.OpenSpec.upto Rows.selectionChainsSpec) own started (by kernel_rfl) Tryd.func5
    (witness_row_at (enc := enc) (C := Tryd.checked) false (laidWorld os) #[.slice none 0 0, .agg #[.string ByteArray.empty, .int .i64 0, .int .i64 0, .int .i64 0, .slice none 0 0]] (World.laidAll_os _ _ _) (by kernel_rfl) (by kernel_rfl) (by kernel_rfl)
      (OpenSpec.preRow_of_cond 8 hx (by kernel_rfl) (fun k hk => by cases hk; kernel_rfl) (by kernel_rfl) (laid_met os _))) ?_
  intro W base args ds gs before hval hW _ hcond _ hL hsh _
  exact contract H enc W base args ds gs before hval hW (hcond _ rfl) (glob_of hL hsh)

set_option maxRecDepth 100000 in
theorem said : Rows.SelectionChainsUptoSaid :=
  OpenClaim.holds_of_cond 5 Tryd.f5 rfl rfl rfl rfl rfl rfl rfl ⟨rfl, rfl, rfl, rfl, rfl⟩ rfl rfl rfl rfl rfl (by kernel_rfl) Tryd.func5 (by kernel_rfl)
    (of_decide_eq_true (by kernel_rfl)) (by unfold Func.isWrapper; first | (rw [if_pos (by decide +kernel)]; kernel_rfl) | (rw [if_neg (by decide +kernel)]; exact ⟨rfl, rfl⟩))
    (fun os started H enc _ F => by rw [OpenClaim.pre_eq_preRow]; exact lifted os started H enc F)

set_option maxRecDepth 100000 in
theorem plain (f : FuncId) (fn : Func) (hf : Tryd.pinned.checked.prog.funcNamed "configlang/configlanglaw46.SelectionChains" = some f) (hfn : Tryd.pinned.checked.prog.funcs[f]? = some fn) :
    false = Tryd.pinned.checked.prog.looks [] ∧ ∀ (j : Nat) t, fn.params[j]? = some t → Tryd.pinned.checked.prog.wantsStandIn t = false := by
  obtain rfl : f = 5 := Option.some.inj ((show Tryd.prog.funcNamed "configlang/configlanglaw46.SelectionChains" = some 5 by kernel_rfl).symm.trans hf) |>.symm
  obtain rfl : fn = Tryd.f5 := (Option.some.inj (Tryd.func5.symm.trans hfn)).symm
  refine ⟨by kernel_rfl, fun j t ht => ?_⟩
  rw [Tryd.params5] at ht
  have hm : t = 22 ∨ t = 29 := by simpa using Array.mem_of_getElem? ht
  rcases hm with rfl | rfl
  · exact (show Tryd.prog.wantsStandIn 22 = false by kernel_rfl)
  · exact (show Tryd.prog.wantsStandIn 29 = false by kernel_rfl)

set_option maxRecDepth 100000 in
theorem card : Rows.SelectionChainsUptoCardSaid :=
  Claim7.holds_tied_plain_at .later [] _ _ _ _ said (fun _ h => by cases h) (by kernel_rfl) (fun _ h => by cases h) selectionChainsUpto_row_tie rfl ⟨rfl, rfl⟩ (by kernel_rfl) rfl plain (by kernel_rfl)
end Go.Proofs.YtfiilbdkhelhgaaDoor.lawChains
