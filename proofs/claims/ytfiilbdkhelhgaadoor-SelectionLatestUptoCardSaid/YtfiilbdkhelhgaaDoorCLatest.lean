/- The law SelectionLatest holds of every registry and root of bulk at most 1048576: the tied card of the second form. No condition beside the row's own. -/
import Derived.Test.YtfiilbdkhelhgaaDoorG2
import Derived.Test.YtfiilbdkhelhgaaDoorOpen2
import Derived.Test.YtfiilbdkhelhgaaDoorWL3
import Derived.Test.YtfiilbdkhelhgaaDoorWH1
import Derived.Test.YtfiilbdkhelhgaaDoorWU3
import Derived.Test.YtfiilbdkhelhgaaDoorPL9
import Derived.Test.YtfiilbdkhelhgaaDoorLA6
import Derived.Test.YtfiilbdkhelhgaaDoorLB6
import Derived.Test.YtfiilbdkhelhgaaDoorFct
namespace Go.Proofs.YtfiilbdkhelhgaaDoor.lawLatest
open Go.ChangeShapes Go.WideShapes Go.ChangeAt Go.RowKit
open Go.ChangeMaps (open_string shut_string)

theorem allL_okB {R : Regy} {root : Mod} {l D : List Mod} (h : Built R root l D) (hR : ∀ y ∈ R, okB y.1) : ∀ x ∈ allL R D, okB x := by
  intro x hx
  obtain ⟨y, hy, rfl⟩ := List.mem_map.1 hx
  obtain ⟨z, hz, he⟩ := List.mem_map.1 (topX_spec R (h.tail.mem y hy).1).2.1
  rw [← he]
  exact hR z hz
set_option maxRecDepth 100000 in
theorem frame118_38d84c49e7 {Q : Exit → Act → World → Prop} {W : World} {fs : List Fact} (t0 t1 t2 t3 t4 t5 t6 t7 t8 t9 t10 t11 t12 t13 t14 t15 t16 t17 t18 t19 t20 t21 t22 t23 t24 t25 t26 t27 t28 t29 t30 t31 t32 t33 t34 t35 t36 t37 t38 t39 t40 t41 t42 t43 t44 t45 t46 t47 t48 t49 t50 t51 t52 t53 t54 t55 t56 t57 t58 t59 t60 t61 t62 t63 t64 t65 t66 t67 t68 t69 t70 t71 t72 t73 t74 t75 t76 t77 t78 t79 t80 t81 t82 t83 t84 t85 t86 t87 t88 t89 t90 t91 t92 t93 t94 t95 t96 t97 t98 t99 t100 t101 t102 t103 t104 t105 t106 t107 t108 t109 t110 t111 t112 t113 t114 t115 t116 t117 v0 v1 v2 v3 v4 v5 v6 v7 v8 v9 v10 v11 v12 v13 v14 v15 v16 v17 v18 v19 v20 v21 v22 : Value) (h : Q .normal (Act.mk #[t0, t1, t2, t3, t4, t5, t6, t7, t8, t9, t10, t11, t12, t13, t14, t15, t16, t17, t18, t19, t20, t21, t22, t23, t24, t25, t26, t27, t28, t29, t30, t31, t32, t33, t34, t35, t36, t37, t38, t39, t40, t41, t42, t43, t44, t45, t46, t47, t48, t49, t50, t51, t52, t53, t54, t55, t56, t57, t58, t59, t60, t61, t62, t63, t64, t65, t66, t67, t68, t69, t70, t71, t72, t73, t74, t75, t76, t77, t78, t79, t80, t81, t82, t83, t84, t85, t86, t87, t88, t89, t90, t91, t92, t93, v0, v1, v2, v3, v4, v5, v6, v7, v8, v9, v10, v11, v12, v13, v14, v15, v16, v17, v18, v19, v20, v21, v22, t117] []) W) : FinAll W (fun A => Q .normal A W) [] fs (Act.put (Act.put (Act.put (Act.put (Act.put (Act.put (Act.put (Act.put (Act.put (Act.put (Act.put (Act.put (Act.put (Act.put (Act.put (Act.put (Act.put (Act.put (Act.put (Act.put (Act.put (Act.put (Act.put (Act.mk #[t0, t1, t2, t3, t4, t5, t6, t7, t8, t9, t10, t11, t12, t13, t14, t15, t16, t17, t18, t19, t20, t21, t22, t23, t24, t25, t26, t27, t28, t29, t30, t31, t32, t33, t34, t35, t36, t37, t38, t39, t40, t41, t42, t43, t44, t45, t46, t47, t48, t49, t50, t51, t52, t53, t54, t55, t56, t57, t58, t59, t60, t61, t62, t63, t64, t65, t66, t67, t68, t69, t70, t71, t72, t73, t74, t75, t76, t77, t78, t79, t80, t81, t82, t83, t84, t85, t86, t87, t88, t89, t90, t91, t92, t93, t94, t95, t96, t97, t98, t99, t100, t101, t102, t103, t104, t105, t106, t107, t108, t109, t110, t111, t112, t113, t114, t115, t116, t117] []) (some 94) v0) (some 95) v1) (some 96) v2) (some 97) v3) (some 98) v4) (some 99) v5) (some 100) v6) (some 101) v7) (some 102) v8) (some 103) v9) (some 104) v10) (some 105) v11) (some 106) v12) (some 107) v13) (some 108) v14) (some 109) v15) (some 110) v16) (some 111) v17) (some 112) v18) (some 113) v19) (some 114) v20) (some 115) v21) (some 116) v22) :=
  fin_end (by kernel_rfl) h
set_option maxRecDepth 100000 in
set_option maxHeartbeats 4000000 in
theorem walk (A : Option Addr) (c : Nat) (L : List ManW) (y0 : ManW) (w : World) (hS : Sl w w.heap.size 5 encW A L) (hO : ∀ y ∈ L, inW w 1048576 y) (hl : L.length ≤ 1048576) (hO1 : inW w 1048576 y0) (hG : Glob w) :
    Calls Tryd.prog 6 #[.slice A L.length c, .agg (encW y0).toArray] w fun e w' => e = .returned (.bool true) ∧ Below w.heap.size w w' := by
  have HL := Lib.hid (reg_in hS hO hl)
  have H1 := Lib.hid (man_in hO1)
  have HG := Lib.hid hG
  clear hS hO hG hl hO1
  have HB0 := Lib.hid (show Below w.heap.size w (w.alloc (.cells (encW y0).toArray 29)) from (Below.refl _ _).alloc (Nat.le_refl _) _)
  have Q0 := Lib.hid (Blk.new w 29 (encW y0).toArray)
  have cS := Lib.hid (fun W (hW : Below w.heap.size w W) => small_any A c L y0 W (HL.out.step hW) (H1.out.step hW))
  have HOK := Lib.hid (fun (h : smallP (regW L) ∧ smallP [plainW y0]) W (hW : Below w.heap.size w W) => (HL.out.ok h.1).step hW)
  have HOM := Lib.hid (fun (h : smallP (regW L) ∧ smallP [plainW y0]) => H1.out.ok h.2)
  have HSM := Lib.hid (fun (h : smallP (regW L) ∧ smallP [plainW y0]) => show (regW L).length ≤ 64 from Nat.le_trans h.1.2 (by decide))
  have cX := Lib.hid (fun W (hW : Below w.heap.size w W) => example_any W (HG.out.keep hW))
  obtain ⟨rm, A0, c0, l0⟩ := y0
  simp only at cS HOM HSM
  generalize (smallP (regW L) ∧ smallP [plainW (rm, A0, c0, l0)]) = P at cS HOK HOM HSM
  simp only [encW] at Q0 HB0 ⊢
  go_enter Tryd.func6, Tryd.ntmps6
  go_wp2_with fail
  refine (cS.out _ HB0.out).mono ?_
  rintro e w1 ⟨b, rfl, hbi, hb1⟩
  have HB1 := Lib.hid (HB0.out.trans (hb1.mono HB0.out.size))
  have Q1 := Lib.hid (Q0.out.keep hb1)
  have HBI := Lib.hid hbi
  clear hb1 hbi cS
  cases b
  · go_wp2_with fail
    refine (cX.out _ HB1.out).mono ?_
    rintro e w2 ⟨rfl, hb2⟩
    have HB2 := Lib.hid (HB1.out.trans (hb2.mono HB1.out.size))
    clear hb2 cX
    go_wp2
    go_ret
    exact ⟨rfl, HB2.out⟩
  · have HP := Lib.hid (show P from by have h := HBI.out; simpa using h)
    clear HBI
    have HR := Lib.hid (fun W (hW : Below w.heap.size w W) => HOK.out HP.out W hW)
    have HM0 := Lib.hid (HOM.out HP.out)
    have H64 := Lib.hid (HSM.out HP.out)
    have hLl : L.length ≤ 100 := (HR.out _ (Below.refl _ _)).2.2
    have HRB := Lib.hid (show ∀ y ∈ regW L, okB y.1 from fun y hy => by
      obtain ⟨u, hu, rfl⟩ := List.mem_map.1 hy
      exact ((HR.out _ (Below.refl _ _)).2.1 u hu).2.2 _ (by simp [plainW]))
    have HRM := Lib.hid (show okB rm from HM0.out.2.2 _ (by simp))
    have HBl := Lib.hid (fun (o : List Mod) (hn : o.length ≤ 100) => show (buildP (regW L) rm o).1.length ≤ 100000 from by
      have h1 := buildP_len (regW L) rm o
      have h2 := univ_len (regW L) o (by simpa [regW] using hLl) (fun z hz => by
        obtain ⟨y, hy, rfl⟩ := List.mem_map.1 hz
        exact ((HR.out _ (Below.refl _ _)).2.1 y hy).2.1)
      omega)
    have hbl : (buildP (regW L) rm l0).1.length ≤ 100000 := HBl.out l0 HM0.out.2.1
    have cB0 := fun W (hW : Below w.heap.size w W) => BuildList_any A c L (rm, A0, c0, l0) W (HR.out W hW) ((HM0.out.keep hW).more hW.size) (HG.out.keep hW)
    have cU0 := fun W (hW : Below w.heap.size w W) => UpgradeAll_any A c L (rm, A0, c0, l0) W (HR.out W hW) ((HM0.out.keep hW).more hW.size) (HG.out.keep hW)
    have cBL := Lib.hid (fun (A1 : Option Addr) (c1 : Nat) (o : List Mod) (ho : ∀ y ∈ o, okB y) (hn : o.length ≤ 100) W (hW : Below w.heap.size w W) (hS : Sl W W.heap.size 4 encM A1 o) => BuildList_any A c L (rm, A1, c1, o) W (HR.out W hW) ⟨hS, hn, fun y hy => by
      rcases List.mem_cons.1 hy with rfl | hy
      · exact HRM.out
      · exact ho y hy⟩ (HG.out.keep hW))
    have HK0 : (buildP (regW L) rm l0).2 = 0 → ∃ U : List Mod, upallP (regW L) rm l0 = ((rm, U), 0) ∧ U.length + 1 = (buildP (regW L) rm l0).1.length ∧ U.length ≤ 100 ∧ (∀ x ∈ U, okB x) ∧ ((buildP (regW L) rm U).2 = 0 ∨ (buildP (regW L) rm U).2 = 7) ∧ ((buildP (regW L) rm U).2 = 0 → ∀ k (hk : k < (buildP (regW L) rm l0).1.length), 1 ≤ k → ∃ v, hasV (buildP (regW L) rm U).1 (buildP (regW L) rm l0).1[k].1 = some v ∧ ∀ y ∈ (regW L).map (·.1), y.1 = (buildP (regW L) rm l0).1[k].1 → 0 ≤ vcmpV v.2 y.2) := by
      intro hb
      obtain ⟨D, hB⟩ := built hb
      have e : (buildP (regW L) rm l0).1 = rm :: D := by rw [hB.eq]
      rw [e]
      obtain ⟨h1, h2, h3⟩ := upall_ok H64.out hB
      have hlen : (allL (regW L) D).length = D.length := List.length_map _
      have hD := hB.tail.len
      have h64 := H64.out
      refine ⟨allL (regW L) D, h1, by rw [hlen]; rfl, by omega, allL_okB hB HRB.out, h2, fun h4 k hk hk1 => ?_⟩
      obtain ⟨j, rfl⟩ : ∃ j, k = j + 1 := ⟨k - 1, by omega⟩
      rw [List.getElem_cons_succ]
      exact h3 h4 _ (List.getElem_mem _)
    have HE0 : (buildP (regW L) rm l0).2 ≠ 0 → upallP (regW L) rm l0 = ((zmod, []), (buildP (regW L) rm l0).2) := fun h => by unfold upallP; rw [if_neg h]
    simp only at cB0 cU0
    generalize buildP (regW L) rm l0 = B at cB0 HK0 HE0 hbl
    obtain ⟨bl, e1⟩ := B
    unfold RetB at cB0
    simp only at cB0 HK0 HE0 hbl
    have cB := Lib.hid cB0
    obtain ⟨y0, y1, y2, y3, y4⟩ := manC Q1.out
    go_wp2_with fail
    refine (cB.out _ HB1.out).mono ?_
    rintro e w2 ⟨A2, c2, rfl, _, hS2, hb2⟩
    have HB2 := Lib.hid (HB1.out.trans (hb2.mono HB1.out.size))
    have Q2 := Lib.hid (Q1.out.keep hb2)
    have S2 := Lib.hid hS2
    clear hb2 y0 y1 y2 y3 y4 hS2 cB cB0
    obtain ⟨y0, y1, y2, y3, y4⟩ := manC (m := rm) (A := A0) (n := l0.length) (c := c0) Q2.out
    by_cases he1 : e1 = 0
    rotate_left
    · have h2 := HE0 he1
      rw [h2] at cU0
      unfold RetMF at cU0
      simp only at cU0
      have cU := Lib.hid cU0
      have he : (e1 == 0) = false := by simpa using he1
      have hee : (e1 == e1) = true := by simp
      clear HE0 HK0 he1 cU0 h2
      go_wp2_with fail
      refine (cU.out _ HB2.out).mono ?_
      rintro e w3 ⟨A3, c3, rfl, hS3, _, hb3⟩
      have HX3 := Lib.hid (HB2.out.trans (hb3.mono HB2.out.size))
      have HA3 := Lib.hid (show Below w3.heap.size w3 (w3.alloc (.cells #[.string ⟨zmod.1.toArray⟩, .int .i64 zmod.2.1, .int .i64 zmod.2.2.1, .int .i64 zmod.2.2.2, .slice A3 ([] : List Mod).length c3] 29)) from (Below.refl _ _).alloc (Nat.le_refl _) _)
      have HB3 := Lib.hid (HX3.out.trans (HA3.out.mono HX3.out.size))
      clear hb3 cU hS3 y0 y1 y2 y3 y4
      go_wp2_with fail
      refine (cX.out _ HB3.out).mono ?_
      rintro e w10 ⟨rfl, hb10⟩
      have HBF := Lib.hid (HB3.out.trans (hb10.mono HB3.out.size))
      clear hb10 cX
      go_wp2
      go_ret
      exact ⟨rfl, HBF.out⟩
    subst he1
    obtain ⟨U, hU1, hU2, hU3, hU4, hU5, hU6⟩ := HK0 rfl
    rw [hU1] at cU0
    unfold RetMF at cU0
    simp only at cU0
    have cU := Lib.hid cU0
    have HU4 := Lib.hid hU4
    have HU2 := Lib.hid hU2
    have hbl2 : (buildP (regW L) rm U).1.length ≤ 100000 := HBl.out U hU3
    have cBL2 := Lib.hid (fun (A1 : Option Addr) (c1 : Nat) W (hW : Below w.heap.size w W) (hS : Sl W W.heap.size 4 encM A1 U) => cBL.out A1 c1 U hU4 hU3 W hW hS)
    generalize buildP (regW L) rm U = B2 at cBL2 hU5 hU6 hbl2
    obtain ⟨bk, e2⟩ := B2
    unfold RetB at cBL2
    simp only at cBL2 hU5 hU6 hbl2
    have HU6 := Lib.hid hU6
    clear HK0 HE0 cU0 hU1 hU2 hU4 hU6
    go_wp2_with fail
    refine (cU.out _ HB2.out).mono ?_
    rintro e w3 ⟨A3, c3, rfl, hS3, _, hb3⟩
    have HX3 := Lib.hid (HB2.out.trans (hb3.mono HB2.out.size))
    have HA3 := Lib.hid (show Below w3.heap.size w3 (w3.alloc (.cells #[.string ⟨rm.1.toArray⟩, .int .i64 rm.2.1, .int .i64 rm.2.2.1, .int .i64 rm.2.2.2, .slice A3 U.length c3] 29)) from (Below.refl _ _).alloc (Nat.le_refl _) _)
    have HB3 := Lib.hid (HX3.out.trans (HA3.out.mono HX3.out.size))
    have S3 := Lib.hid ((hS3.below HA3.out).more HA3.out.size)
    have BB3 := Lib.hid (Blk.new w3 29 (manA rm A3 U.length c3))
    have S23 := Lib.hid (((S2.out.below hb3).more hb3.size |>.below HA3.out).more HA3.out.size)
    unfold manA at BB3
    have cB3 := Lib.hid (cBL2.out A3 c3 _ HB3.out S3.out)
    obtain ⟨z0, z1, z2, z3, z4⟩ := manC BB3.out
    clear hb3 cU hS3 y0 y1 y2 y3 y4 cBL2
    go_wp2_with fail
    refine cB3.out.mono ?_
    rintro e w4 ⟨A4, c4, rfl, _, hS4, hb4⟩
    have HB4 := Lib.hid (HB3.out.trans (hb4.mono HB3.out.size))
    have BB4 := Lib.hid (BB3.out.keep hb4)
    have S24 := Lib.hid ((S23.out.below hb4).more hb4.size)
    have S4 := Lib.hid hS4
    clear hb4 cB3 z0 z1 z2 z3 z4 hS4
    obtain ⟨z0, z1, z2, z3, z4⟩ := manC BB4.out
    have hlw : IntKind.i64.wrap ((bl.length : Int) - 1) = (U.length : Int) := by have := HU2.out; simp [IntKind.wrap, IntKind.bits, IntKind.signed]; omega
    rcases hU5 with he2 | he2
    rotate_left
    · subst he2
      clear HU6
      go_wp2_with fail
      refine (cX.out _ HB4.out).mono ?_
      rintro e w10 ⟨rfl, hb10⟩
      have HBF := Lib.hid (HB4.out.trans (hb10.mono HB4.out.size))
      clear hb10 cX
      go_wp2
      go_ret
      exact ⟨rfl, HBF.out⟩
    subst he2
    have HV := Lib.hid (HU6.out rfl)
    clear HU6
    go_wp2_with fail
    go_loopw [11] (fun i wr => ∃ k : Nat, 1 ≤ k ∧ k ≤ bl.length ∧ i = .int .i64 (k : Nat) ∧ Hid (Below w4.heap.size w4 wr)) (fun i _ => bl.length + 1 - (intOf i).toNat)
    case atStart => exact ⟨1, Nat.le_refl _, by have := HU2.out; omega, rfl, Lib.hid (Below.refl _ _)⟩
    case round =>
      obtain ⟨wo, hwo⟩ : ∃ wo, wo = wr := ⟨_, rfl⟩
      subst hwo
      obtain ⟨k, hk1, hk, rfl, HB⟩ := hrel
      have HBo := Lib.hid (HB4.out.trans (HB.out.mono HB4.out.size))
      clear z0 z1 z2 z3 z4
      by_cases hlt : k < bl.length
      · have hlt' : (k : Int) < (bl.length : Int) := by omega
        have hk0 : (0 : Int) ≤ (k : Int) := by omega
        have So := Lib.hid ((S24.out.below HB.out).more HB.out.size)
        obtain ⟨v, hv1, hv2⟩ := HV.out k hlt hk1
        obtain ⟨pl, ol, hA2, hpl, u0, _⟩ := So.out.mod hlt
        obtain ⟨p, hp⟩ : ∃ p, p = bl[k].1 := ⟨_, rfl⟩
        rw [← hp] at hv1 hv2 u0
        have HPK := Lib.hid (fun (h : k < bl.length) => show bl[k].1 = p from hp.symm)
        have cH0 := has_any A4 c4 bk p wo ((S4.out.below HB.out).more HB.out.size) (by omega)
        rw [hv1] at cH0
        have cH := Lib.hid (show Calls Tryd.prog 20 #[.slice A4 bk.length c4, .string ⟨p.toArray⟩] wo fun e w' => e = .returned (.tuple #[.agg #[.int .i64 v.2.1, .int .i64 v.2.2.1, .int .i64 v.2.2.2], .bool true]) ∧ Below wo.heap.size wo w' from cH0)
        have HV2 := Lib.hid hv2
        have HA2 := Lib.hid hA2
        subst hA2
        clear cH0 hv1 hv2 hp
        go_wp2_with fail
        refine cH.out.mono ?_
        rintro e w5 ⟨rfl, hb5⟩
        have HA5 := Lib.hid (show Below w5.heap.size w5 (w5.alloc (.cells #[.int .i64 v.2.1, .int .i64 v.2.2.1, .int .i64 v.2.2.2] 24)) from (Below.refl _ _).alloc (Nat.le_refl _) _)
        have V5 := Lib.hid (Blk.new w5 24 #[.int .i64 v.2.1, .int .i64 v.2.2.1, .int .i64 v.2.2.2])
        have HB5 := Lib.hid (HB.out.trans ((hb5.trans (HA5.out.mono hb5.size)).mono HB.out.size))
        have HX5 := Lib.hid (HBo.out.trans ((hb5.trans (HA5.out.mono hb5.size)).mono HBo.out.size))
        have S5 := Lib.hid (((So.out.below hb5).more hb5.size |>.below HA5.out).more HA5.out.size)
        clear hb5 cH u0
        go_wp2_with fail
        go_loopw [14] (fun i wr => ∃ n : Nat, n ≤ L.length ∧ i = .int .i64 (n : Nat) ∧ Hid (Below (w5.alloc (.cells #[.int .i64 v.2.1, .int .i64 v.2.2.1, .int .i64 v.2.2.2] 24)).heap.size (w5.alloc (.cells #[.int .i64 v.2.1, .int .i64 v.2.2.1, .int .i64 v.2.2.2] 24)) wr)) (fun i _ => L.length - (intOf i).toNat)
        case atStart => exact ⟨0, Nat.zero_le _, rfl, Lib.hid (Below.refl _ _)⟩
        case round =>
          obtain ⟨wk, hwk⟩ : ∃ wk, wk = wr := ⟨_, rfl⟩
          subst hwk
          obtain ⟨n, hn, rfl, HBn⟩ := hrel
          by_cases hnl : n < L.length
          · have hnl' : (n : Int) < (L.length : Int) := by omega
            have HBk := Lib.hid (HX5.out.trans (HBn.out.mono HX5.out.size))
            have Sk := Lib.hid ((S5.out.below HBn.out).more HBn.out.size)
            have Vk := Lib.hid (V5.out.keep HBn.out)
            obtain ⟨pl', ol', hA2, hpl, u0, _⟩ := Sk.out.mod hlt
            obtain ⟨rfl, rfl⟩ : pl = pl' ∧ ol = ol' := by injection hA2 with h; injection h with h1 h2; exact ⟨h1, h2⟩
            rw [HPK.out hlt] at u0
            obtain ⟨b, off, hA1, hbB, g0, g1, g2, g3, _⟩ := (HR.out _ HBk.out).1.man hnl
            have hvy := HV2.out (plainW L[n]).1 (List.mem_map.2 ⟨_, List.mem_map.2 ⟨_, List.getElem_mem hnl, rfl⟩, rfl⟩)
            generalize L[n] = y at g0 g1 g2 g3 hvy
            obtain ⟨m, A5, c5, l5⟩ := y
            simp only [plainW] at g0 g1 g2 g3 hvy
            have HA1 := Lib.hid hA1
            subst hA1
            have t0 := Vk.out.cell 0
            have t1 := Vk.out.cell 1
            have t2 := Vk.out.cell 2
            simp at t0 t1 t2
            have hv4 : w5.heap.size < wk.heap.size := Vk.out.lt
            clear hA2
            by_cases hmp : m.1 = p
            · have hpp : (m.1 == p) = true := by rw [hmp]; exact beq_self_eq_true _
              have hge := hvy hmp
              have hdv : vcmp v.2.1 v.2.2.1 v.2.2.2 m.2.1 m.2.2.1 m.2.2.2 = vcmpV v.2 m.2 := rfl
              generalize vcmpV v.2 m.2 = d at hge hdv
              have hd0 : ¬ d < 0 := by omega
              clear hvy hmp hge
              go_upto_region 19 with fail
              apply wp_region_facts (by kernel_rfl) [isv _, isv _, isv _, isv _, isv _, isv _, isv _, isv _, isv _, isv _, isv _, isv _, isv _, isv _, isv _, isv _, isv _, isv _, isv _, isv _, isv _, isv _, isv _] wk.heap.size wk (Nat.le_refl _) (Below.refl _ _).drew (by kernel_rfl) (by kernel_rfl) (by kernel_rfl) (And.intro (isv_mono _) (And.intro (isv_mono _) (And.intro (isv_mono _) (And.intro (isv_mono _) (And.intro (isv_mono _) (And.intro (isv_mono _) (And.intro (isv_mono _) (And.intro (isv_mono _) (And.intro (isv_mono _) (And.intro (isv_mono _) (And.intro (isv_mono _) (And.intro (isv_mono _) (And.intro (isv_mono _) (And.intro (isv_mono _) (And.intro (isv_mono _) (And.intro (isv_mono _) (And.intro (isv_mono _) (And.intro (isv_mono _) (And.intro (isv_mono _) (And.intro (isv_mono _) (And.intro (isv_mono _) (And.intro (isv_mono _) (And.intro (isv_mono _) trivial))))))))))))))))))))))) ?steps (by rfl) ?fin
              case steps =>
                refine (And.intro ?o0 (And.intro ?o1 (And.intro ?o2 (And.intro ?o3 (And.intro ?o4 (And.intro ?o5 (And.intro ?o6 (And.intro ?o7 (And.intro ?o8 (And.intro ?o9 (And.intro ?o10 (And.intro ?o11 (And.intro ?o12 (And.intro ?o13 (And.intro ?o14 (And.intro ?o15 (And.intro ?o16 (And.intro ?o17 (And.intro ?o18 (And.intro ?o19 (And.intro ?o20 (And.intro ?o21 (And.intro ?o22 trivial)))))))))))))))))))))))
                case o0 =>
                  intro AA W KK QQ hB hs hd hl hk
                  have sl0 := hs 0 _ (by kernel_rfl) rfl
                  clear hs hd hl
                  go_simp
                  exact hk _ _ rfl (Below.refl _ _)
                case o1 =>
                  intro AA W KK QQ hB hs hd hl hk
                  have sl14 := hs 14 _ (by kernel_rfl) rfl
                  clear hs hd hl
                  go_simp
                  exact hk _ _ rfl (Below.refl _ _)
                case o2 =>
                  intro AA W KK QQ hB hs hd hl hk
                  obtain ⟨_, sl94, rfl⟩ := hd 0 94 (by kernel_rfl) rfl
                  obtain ⟨_, sl95, rfl⟩ := hd 1 95 (by kernel_rfl) rfl
                  clear hs hd hl
                  go_simp
                  exact hk _ _ rfl (Below.refl _ _)
                case o3 =>
                  intro AA W KK QQ hB hs hd hl hk
                  obtain ⟨_, sl96, rfl⟩ := hd 2 96 (by kernel_rfl) rfl
                  clear hs hd hl
                  go_simp
                  exact hk _ _ rfl (Below.refl _ _)
                case o4 =>
                  intro AA W KK QQ hB hs hd hl hk
                  obtain ⟨_, sl97, rfl⟩ := hd 3 97 (by kernel_rfl) rfl
                  clear hs hd hl
                  go_simp
                  exact hk _ _ rfl (Below.refl _ _)
                case o5 =>
                  intro AA W KK QQ hB hs hd hl hk
                  obtain ⟨_, sl98, rfl⟩ := hd 4 98 (by kernel_rfl) rfl
                  clear hs hd hl
                  have hx0 := hB.cell (p := ⟨b, off + n * 5, none⟩) hbB
                  rw [g0] at hx0
                  go_simp
                  exact hk _ _ rfl (Below.refl _ _)
                case o6 =>
                  intro AA W KK QQ hB hs hd hl hk
                  have sl5 := hs 5 _ (by kernel_rfl) rfl
                  clear hs hd hl
                  go_simp
                  exact hk _ _ rfl (Below.refl _ _)
                case o7 =>
                  intro AA W KK QQ hB hs hd hl hk
                  have sl11 := hs 11 _ (by kernel_rfl) rfl
                  clear hs hd hl
                  go_simp
                  exact hk _ _ rfl (Below.refl _ _)
                case o8 =>
                  intro AA W KK QQ hB hs hd hl hk
                  obtain ⟨_, sl100, rfl⟩ := hd 6 100 (by kernel_rfl) rfl
                  obtain ⟨_, sl101, rfl⟩ := hd 7 101 (by kernel_rfl) rfl
                  clear hs hd hl
                  go_simp
                  exact hk _ _ rfl (Below.refl _ _)
                case o9 =>
                  intro AA W KK QQ hB hs hd hl hk
                  obtain ⟨_, sl102, rfl⟩ := hd 8 102 (by kernel_rfl) rfl
                  clear hs hd hl
                  go_simp
                  exact hk _ _ rfl (Below.refl _ _)
                case o10 =>
                  intro AA W KK QQ hB hs hd hl hk
                  obtain ⟨_, sl103, rfl⟩ := hd 9 103 (by kernel_rfl) rfl
                  clear hs hd hl
                  have hx0 := hB.cell (p := ⟨pl, ol + k * 4, none⟩) hpl
                  rw [u0] at hx0
                  go_simp
                  exact hk _ _ rfl (Below.refl _ _)
                case o11 =>
                  intro AA W KK QQ hB hs hd hl hk
                  obtain ⟨_, sl99, rfl⟩ := hd 5 99 (by kernel_rfl) rfl
                  obtain ⟨_, sl104, rfl⟩ := hd 10 104 (by kernel_rfl) rfl
                  clear hs hd hl
                  go_simp
                  exact hk _ _ rfl (Below.refl _ _)
                case o12 =>
                  intro AA W KK QQ hB hs hd hl hk
                  obtain ⟨_, sl105, rfl⟩ := hd 11 105 (by kernel_rfl) rfl
                  clear hs hd hl
                  go_simp
                  exact hk _ _ rfl (Below.refl _ _)
                case o13 =>
                  intro AA W KK QQ hB hs hd hl hk
                  have sl12 := hs 12 _ (by kernel_rfl) rfl
                  obtain ⟨_, sl106, rfl⟩ := hd 12 106 (by kernel_rfl) rfl
                  clear hs hd hl
                  have hx0 := hB.cell (p := ⟨w5.heap.size, 0, none⟩) hv4
                  have hx1 := hB.cell (p := ⟨w5.heap.size, 1, none⟩) hv4
                  have hx2 := hB.cell (p := ⟨w5.heap.size, 2, none⟩) hv4
                  rw [t0] at hx0
                  rw [t1] at hx1
                  rw [t2] at hx2
                  refine ⟨_, _, rfl, sl106, ?_⟩
                  first
                    | (change Oper.wp _ _ _ _ _ _; go_simp; exact hk _ _ rfl (Below.refl _ _))
                    | exact rfl
                case o14 =>
                  intro AA W KK QQ hB hs hd hl hk
                  have sl0 := hs 0 _ (by kernel_rfl) rfl
                  obtain ⟨_, sl106, rfl⟩ := hd 12 106 (by kernel_rfl) rfl
                  clear hs hd hl
                  refine ⟨_, _, rfl, sl106, ?_⟩
                  first
                    | (change Oper.wp _ _ _ _ _ _; go_simp; exact hk _ _ rfl (Below.refl _ _))
                    | exact rfl
                case o15 =>
                  intro AA W KK QQ hB hs hd hl hk
                  have sl14 := hs 14 _ (by kernel_rfl) rfl
                  obtain ⟨_, sl106, rfl⟩ := hd 12 106 (by kernel_rfl) rfl
                  clear hs hd hl
                  refine ⟨_, _, rfl, sl106, ?_⟩
                  first
                    | (change Oper.wp _ _ _ _ _ _; go_simp; exact hk _ _ rfl (Below.refl _ _))
                    | exact rfl
                case o16 =>
                  intro AA W KK QQ hB hs hd hl hk
                  obtain ⟨_, sl106, rfl⟩ := hd 12 106 (by kernel_rfl) rfl
                  obtain ⟨_, sl108, rfl⟩ := hd 14 108 (by kernel_rfl) rfl
                  obtain ⟨_, sl109, rfl⟩ := hd 15 109 (by kernel_rfl) rfl
                  clear hs hd hl
                  refine ⟨_, _, rfl, sl106, ?_⟩
                  first
                    | (change Oper.wp _ _ _ _ _ _; go_simp; exact hk _ _ rfl (Below.refl _ _))
                    | exact rfl
                case o17 =>
                  intro AA W KK QQ hB hs hd hl hk
                  obtain ⟨_, sl106, rfl⟩ := hd 12 106 (by kernel_rfl) rfl
                  obtain ⟨_, sl110, rfl⟩ := hd 16 110 (by kernel_rfl) rfl
                  clear hs hd hl
                  refine ⟨_, _, rfl, sl106, ?_⟩
                  first
                    | (change Oper.wp _ _ _ _ _ _; go_simp; exact hk _ _ rfl (Below.refl _ _))
                    | exact rfl
                case o18 =>
                  intro AA W KK QQ hB hs hd hl hk
                  obtain ⟨_, sl106, rfl⟩ := hd 12 106 (by kernel_rfl) rfl
                  obtain ⟨_, sl111, rfl⟩ := hd 17 111 (by kernel_rfl) rfl
                  clear hs hd hl
                  refine ⟨_, _, rfl, sl106, ?_⟩
                  first
                    | (change Oper.wp _ _ _ _ _ _; go_simp; exact hk _ _ rfl (Below.refl _ _))
                    | exact rfl
                case o19 =>
                  intro AA W KK QQ hB hs hd hl hk
                  obtain ⟨_, sl106, rfl⟩ := hd 12 106 (by kernel_rfl) rfl
                  obtain ⟨_, sl112, rfl⟩ := hd 18 112 (by kernel_rfl) rfl
                  clear hs hd hl
                  have hx1 := hB.cell (p := ⟨b, off + n * 5 + 1, none⟩) hbB
                  have hx2 := hB.cell (p := ⟨b, off + n * 5 + 2, none⟩) hbB
                  have hx3 := hB.cell (p := ⟨b, off + n * 5 + 3, none⟩) hbB
                  rw [g1] at hx1
                  rw [g2] at hx2
                  rw [g3] at hx3
                  refine ⟨_, _, rfl, sl106, ?_⟩
                  first
                    | (change Oper.wp _ _ _ _ _ _; go_simp; exact hk _ _ rfl (Below.refl _ _))
                    | exact rfl
                case o20 =>
                  intro AA W KK QQ hB hs hd hl hk
                  obtain ⟨_, sl106, rfl⟩ := hd 12 106 (by kernel_rfl) rfl
                  obtain ⟨_, sl107, rfl⟩ := hd 13 107 (by kernel_rfl) rfl
                  obtain ⟨_, sl113, rfl⟩ := hd 19 113 (by kernel_rfl) rfl
                  clear hs hd hl
                  refine ⟨_, _, rfl, sl106, ?_⟩
                  change Oper.wp _ _ _ _ _ _
                  go_simp
                  refine (refCompare_any _ _ _ _ _ _ W).mono ?_
                  rintro e W2 ⟨rfl, hb2⟩
                  exact hk _ _ rfl hb2
                case o21 =>
                  intro AA W KK QQ hB hs hd hl hk
                  obtain ⟨_, sl106, rfl⟩ := hd 12 106 (by kernel_rfl) rfl
                  obtain ⟨_, sl114, rfl⟩ := hd 20 114 (by kernel_rfl) rfl
                  clear hs hd hl
                  refine ⟨_, _, rfl, sl106, ?_⟩
                  first
                    | (change Oper.wp _ _ _ _ _ _; go_simp; exact hk _ _ rfl (Below.refl _ _))
                    | exact rfl
                case o22 =>
                  intro AA W KK QQ hB hs hd hl hk
                  obtain ⟨_, sl106, rfl⟩ := hd 12 106 (by kernel_rfl) rfl
                  obtain ⟨_, sl115, rfl⟩ := hd 21 115 (by kernel_rfl) rfl
                  clear hs hd hl
                  go_simp
                  exact hk _ _ rfl (Below.refl _ _)
              case fin =>
                intro wh hB
                refine fin_isv 94 rfl ?_
                refine fin_isv 95 rfl ?_
                refine fin_isv 96 rfl ?_
                refine fin_isv 97 rfl ?_
                refine fin_isv 98 rfl ?_
                refine fin_isv 99 rfl ?_
                refine fin_isv 100 rfl ?_
                refine fin_isv 101 rfl ?_
                refine fin_isv 102 rfl ?_
                refine fin_isv 103 rfl ?_
                refine fin_isv 104 rfl ?_
                refine fin_isv 105 rfl ?_
                refine fin_isv 106 rfl ?_
                refine fin_isv 107 rfl ?_
                refine fin_isv 108 rfl ?_
                refine fin_isv 109 rfl ?_
                refine fin_isv 110 rfl ?_
                refine fin_isv 111 rfl ?_
                refine fin_isv 112 rfl ?_
                refine fin_isv 113 rfl ?_
                refine fin_isv 114 rfl ?_
                refine fin_isv 115 rfl ?_
                refine fin_isv 116 rfl ?_
                refine frame118_38d84c49e7 _ _ _ _ _ _ _ _ _ _ _ _ _ _ _ _ _ _ _ _ _ _ _ _ _ _ _ _ _ _ _ _ _ _ _ _ _ _ _ _ _ _ _ _ _ _ _ _ _ _ _ _ _ _ _ _ _ _ _ _ _ _ _ _ _ _ _ _ _ _ _ _ _ _ _ _ _ _ _ _ _ _ _ _ _ _ _ _ _ _ _ _ _ _ _ _ _ _ _ _ _ _ _ _ _ _ _ _ _ _ _ _ _ _ _ _ _ _ _ _ _ _ _ _ _ _ _ _ _ _ _ _ _ _ _ _ _ _ _ _ _ ?_
                have HBh := Lib.hid (HBn.out.trans (hB.mono HBn.out.size))
                clear hB g0 g1 g2 g3 u0 t0 t1 t2
                go_wp2
                go_roundw
                case rel => exact ⟨n + 1, by omega, by go_num, HBh⟩
                case measure => simp [intOf]; omega
            · have hpp : (m.1 == p) = false := beq_eq_false_iff_ne.2 hmp
              clear hvy hmp
              go_upto_region 19 with fail
              apply wp_region_facts (by kernel_rfl) [isv _, isv _, isv _, isv _, isv _, isv _, isv _, isv _, isv _, isv _, isv _, isv _, isv _, isv _, isv _, isv _, isv _, isv _, isv _, isv _, isv _, isv _, isv _] wk.heap.size wk (Nat.le_refl _) (Below.refl _ _).drew (by kernel_rfl) (by kernel_rfl) (by kernel_rfl) (And.intro (isv_mono _) (And.intro (isv_mono _) (And.intro (isv_mono _) (And.intro (isv_mono _) (And.intro (isv_mono _) (And.intro (isv_mono _) (And.intro (isv_mono _) (And.intro (isv_mono _) (And.intro (isv_mono _) (And.intro (isv_mono _) (And.intro (isv_mono _) (And.intro (isv_mono _) (And.intro (isv_mono _) (And.intro (isv_mono _) (And.intro (isv_mono _) (And.intro (isv_mono _) (And.intro (isv_mono _) (And.intro (isv_mono _) (And.intro (isv_mono _) (And.intro (isv_mono _) (And.intro (isv_mono _) (And.intro (isv_mono _) (And.intro (isv_mono _) trivial))))))))))))))))))))))) ?steps (by rfl) ?fin
              case steps =>
                refine (And.intro ?o0 (And.intro ?o1 (And.intro ?o2 (And.intro ?o3 (And.intro ?o4 (And.intro ?o5 (And.intro ?o6 (And.intro ?o7 (And.intro ?o8 (And.intro ?o9 (And.intro ?o10 (And.intro ?o11 (And.intro ?o12 (And.intro ?o13 (And.intro ?o14 (And.intro ?o15 (And.intro ?o16 (And.intro ?o17 (And.intro ?o18 (And.intro ?o19 (And.intro ?o20 (And.intro ?o21 (And.intro ?o22 trivial)))))))))))))))))))))))
                case o0 =>
                  intro AA W KK QQ hB hs hd hl hk
                  have sl0 := hs 0 _ (by kernel_rfl) rfl
                  clear hs hd hl
                  go_simp
                  exact hk _ _ rfl (Below.refl _ _)
                case o1 =>
                  intro AA W KK QQ hB hs hd hl hk
                  have sl14 := hs 14 _ (by kernel_rfl) rfl
                  clear hs hd hl
                  go_simp
                  exact hk _ _ rfl (Below.refl _ _)
                case o2 =>
                  intro AA W KK QQ hB hs hd hl hk
                  obtain ⟨_, sl94, rfl⟩ := hd 0 94 (by kernel_rfl) rfl
                  obtain ⟨_, sl95, rfl⟩ := hd 1 95 (by kernel_rfl) rfl
                  clear hs hd hl
                  go_simp
                  exact hk _ _ rfl (Below.refl _ _)
                case o3 =>
                  intro AA W KK QQ hB hs hd hl hk
                  obtain ⟨_, sl96, rfl⟩ := hd 2 96 (by kernel_rfl) rfl
                  clear hs hd hl
                  go_simp
                  exact hk _ _ rfl (Below.refl _ _)
                case o4 =>
                  intro AA W KK QQ hB hs hd hl hk
                  obtain ⟨_, sl97, rfl⟩ := hd 3 97 (by kernel_rfl) rfl
                  clear hs hd hl
                  go_simp
                  exact hk _ _ rfl (Below.refl _ _)
                case o5 =>
                  intro AA W KK QQ hB hs hd hl hk
                  obtain ⟨_, sl98, rfl⟩ := hd 4 98 (by kernel_rfl) rfl
                  clear hs hd hl
                  have hx0 := hB.cell (p := ⟨b, off + n * 5, none⟩) hbB
                  rw [g0] at hx0
                  go_simp
                  exact hk _ _ rfl (Below.refl _ _)
                case o6 =>
                  intro AA W KK QQ hB hs hd hl hk
                  have sl5 := hs 5 _ (by kernel_rfl) rfl
                  clear hs hd hl
                  go_simp
                  exact hk _ _ rfl (Below.refl _ _)
                case o7 =>
                  intro AA W KK QQ hB hs hd hl hk
                  have sl11 := hs 11 _ (by kernel_rfl) rfl
                  clear hs hd hl
                  go_simp
                  exact hk _ _ rfl (Below.refl _ _)
                case o8 =>
                  intro AA W KK QQ hB hs hd hl hk
                  obtain ⟨_, sl100, rfl⟩ := hd 6 100 (by kernel_rfl) rfl
                  obtain ⟨_, sl101, rfl⟩ := hd 7 101 (by kernel_rfl) rfl
                  clear hs hd hl
                  go_simp
                  exact hk _ _ rfl (Below.refl _ _)
                case o9 =>
                  intro AA W KK QQ hB hs hd hl hk
                  obtain ⟨_, sl102, rfl⟩ := hd 8 102 (by kernel_rfl) rfl
                  clear hs hd hl
                  go_simp
                  exact hk _ _ rfl (Below.refl _ _)
                case o10 =>
                  intro AA W KK QQ hB hs hd hl hk
                  obtain ⟨_, sl103, rfl⟩ := hd 9 103 (by kernel_rfl) rfl
                  clear hs hd hl
                  have hx0 := hB.cell (p := ⟨pl, ol + k * 4, none⟩) hpl
                  rw [u0] at hx0
                  go_simp
                  exact hk _ _ rfl (Below.refl _ _)
                case o11 =>
                  intro AA W KK QQ hB hs hd hl hk
                  obtain ⟨_, sl99, rfl⟩ := hd 5 99 (by kernel_rfl) rfl
                  obtain ⟨_, sl104, rfl⟩ := hd 10 104 (by kernel_rfl) rfl
                  clear hs hd hl
                  go_simp
                  exact hk _ _ rfl (Below.refl _ _)
                case o12 =>
                  intro AA W KK QQ hB hs hd hl hk
                  obtain ⟨_, sl105, rfl⟩ := hd 11 105 (by kernel_rfl) rfl
                  clear hs hd hl
                  go_simp
                  exact hk _ _ rfl (Below.refl _ _)
                case o13 =>
                  intro AA W KK QQ hB hs hd hl hk
                  have sl12 := hs 12 _ (by kernel_rfl) rfl
                  obtain ⟨_, sl106, rfl⟩ := hd 12 106 (by kernel_rfl) rfl
                  clear hs hd hl
                  refine ⟨_, _, rfl, sl106, ?_⟩
                  first
                    | (change Oper.wp _ _ _ _ _ _; go_simp; exact hk _ _ rfl (Below.refl _ _))
                    | exact rfl
                case o14 =>
                  intro AA W KK QQ hB hs hd hl hk
                  have sl0 := hs 0 _ (by kernel_rfl) rfl
                  obtain ⟨_, sl106, rfl⟩ := hd 12 106 (by kernel_rfl) rfl
                  clear hs hd hl
                  refine ⟨_, _, rfl, sl106, ?_⟩
                  first
                    | (change Oper.wp _ _ _ _ _ _; go_simp; exact hk _ _ rfl (Below.refl _ _))
                    | exact rfl
                case o15 =>
                  intro AA W KK QQ hB hs hd hl hk
                  have sl14 := hs 14 _ (by kernel_rfl) rfl
                  obtain ⟨_, sl106, rfl⟩ := hd 12 106 (by kernel_rfl) rfl
                  clear hs hd hl
                  refine ⟨_, _, rfl, sl106, ?_⟩
                  first
                    | (change Oper.wp _ _ _ _ _ _; go_simp; exact hk _ _ rfl (Below.refl _ _))
                    | exact rfl
                case o16 =>
                  intro AA W KK QQ hB hs hd hl hk
                  obtain ⟨_, sl106, rfl⟩ := hd 12 106 (by kernel_rfl) rfl
                  obtain ⟨_, sl108, rfl⟩ := hd 14 108 (by kernel_rfl) rfl
                  obtain ⟨_, sl109, rfl⟩ := hd 15 109 (by kernel_rfl) rfl
                  clear hs hd hl
                  refine ⟨_, _, rfl, sl106, ?_⟩
                  first
                    | (change Oper.wp _ _ _ _ _ _; go_simp; exact hk _ _ rfl (Below.refl _ _))
                    | exact rfl
                case o17 =>
                  intro AA W KK QQ hB hs hd hl hk
                  obtain ⟨_, sl106, rfl⟩ := hd 12 106 (by kernel_rfl) rfl
                  obtain ⟨_, sl110, rfl⟩ := hd 16 110 (by kernel_rfl) rfl
                  clear hs hd hl
                  refine ⟨_, _, rfl, sl106, ?_⟩
                  first
                    | (change Oper.wp _ _ _ _ _ _; go_simp; exact hk _ _ rfl (Below.refl _ _))
                    | exact rfl
                case o18 =>
                  intro AA W KK QQ hB hs hd hl hk
                  obtain ⟨_, sl106, rfl⟩ := hd 12 106 (by kernel_rfl) rfl
                  obtain ⟨_, sl111, rfl⟩ := hd 17 111 (by kernel_rfl) rfl
                  clear hs hd hl
                  refine ⟨_, _, rfl, sl106, ?_⟩
                  first
                    | (change Oper.wp _ _ _ _ _ _; go_simp; exact hk _ _ rfl (Below.refl _ _))
                    | exact rfl
                case o19 =>
                  intro AA W KK QQ hB hs hd hl hk
                  obtain ⟨_, sl106, rfl⟩ := hd 12 106 (by kernel_rfl) rfl
                  obtain ⟨_, sl112, rfl⟩ := hd 18 112 (by kernel_rfl) rfl
                  clear hs hd hl
                  refine ⟨_, _, rfl, sl106, ?_⟩
                  first
                    | (change Oper.wp _ _ _ _ _ _; go_simp; exact hk _ _ rfl (Below.refl _ _))
                    | exact rfl
                case o20 =>
                  intro AA W KK QQ hB hs hd hl hk
                  obtain ⟨_, sl106, rfl⟩ := hd 12 106 (by kernel_rfl) rfl
                  obtain ⟨_, sl107, rfl⟩ := hd 13 107 (by kernel_rfl) rfl
                  obtain ⟨_, sl113, rfl⟩ := hd 19 113 (by kernel_rfl) rfl
                  clear hs hd hl
                  refine ⟨_, _, rfl, sl106, ?_⟩
                  exact rfl
                case o21 =>
                  intro AA W KK QQ hB hs hd hl hk
                  obtain ⟨_, sl106, rfl⟩ := hd 12 106 (by kernel_rfl) rfl
                  obtain ⟨_, sl114, rfl⟩ := hd 20 114 (by kernel_rfl) rfl
                  clear hs hd hl
                  refine ⟨_, _, rfl, sl106, ?_⟩
                  first
                    | (change Oper.wp _ _ _ _ _ _; go_simp; exact hk _ _ rfl (Below.refl _ _))
                    | exact rfl
                case o22 =>
                  intro AA W KK QQ hB hs hd hl hk
                  obtain ⟨_, sl106, rfl⟩ := hd 12 106 (by kernel_rfl) rfl
                  obtain ⟨_, sl115, rfl⟩ := hd 21 115 (by kernel_rfl) rfl
                  clear hs hd hl
                  go_simp
                  exact hk _ _ rfl (Below.refl _ _)
              case fin =>
                intro wh hB
                refine fin_isv 94 rfl ?_
                refine fin_isv 95 rfl ?_
                refine fin_isv 96 rfl ?_
                refine fin_isv 97 rfl ?_
                refine fin_isv 98 rfl ?_
                refine fin_isv 99 rfl ?_
                refine fin_isv 100 rfl ?_
                refine fin_isv 101 rfl ?_
                refine fin_isv 102 rfl ?_
                refine fin_isv 103 rfl ?_
                refine fin_isv 104 rfl ?_
                refine fin_isv 105 rfl ?_
                refine fin_isv 106 rfl ?_
                refine fin_isv 107 rfl ?_
                refine fin_isv 108 rfl ?_
                refine fin_isv 109 rfl ?_
                refine fin_isv 110 rfl ?_
                refine fin_isv 111 rfl ?_
                refine fin_isv 112 rfl ?_
                refine fin_isv 113 rfl ?_
                refine fin_isv 114 rfl ?_
                refine fin_isv 115 rfl ?_
                refine fin_isv 116 rfl ?_
                refine frame118_38d84c49e7 _ _ _ _ _ _ _ _ _ _ _ _ _ _ _ _ _ _ _ _ _ _ _ _ _ _ _ _ _ _ _ _ _ _ _ _ _ _ _ _ _ _ _ _ _ _ _ _ _ _ _ _ _ _ _ _ _ _ _ _ _ _ _ _ _ _ _ _ _ _ _ _ _ _ _ _ _ _ _ _ _ _ _ _ _ _ _ _ _ _ _ _ _ _ _ _ _ _ _ _ _ _ _ _ _ _ _ _ _ _ _ _ _ _ _ _ _ _ _ _ _ _ _ _ _ _ _ _ _ _ _ _ _ _ _ _ _ _ _ _ _ ?_
                have HBh := Lib.hid (HBn.out.trans (hB.mono HBn.out.size))
                clear hB g0 g1 g2 g3 u0 t0 t1 t2
                go_wp2
                go_roundw
                case rel => exact ⟨n + 1, by omega, by go_num, HBh⟩
                case measure => simp [intOf]; omega
          · have HBz := Lib.hid (HB5.out.trans (HBn.out.mono HB5.out.size))
            have hnn : ¬ (n : Int) < (L.length : Int) := by omega
            go_wp2
            go_roundw
            case rel => exact ⟨k + 1, by omega, by omega, by go_num, HBz⟩
            case measure => simp [intOf]; omega
      · have hnl : ¬ (k : Int) < (bl.length : Int) := by omega
        go_wp2_with fail
        refine (cX.out _ HBo.out).mono ?_
        rintro e w20 ⟨rfl, hb20⟩
        have HBF := Lib.hid (HBo.out.trans (hb20.mono HBo.out.size))
        clear hb20 cX
        go_wp2
        go_ret
        exact ⟨rfl, HBF.out⟩

set_option maxRecDepth 100000 in
theorem contract (H : Type) (enc : TypeId × Value → H) (W : World) (base : Nat) (args : Array Value) (ds gs : List (DataW H)) (before : List MemPlace)
    (hval : ∀ (j : Nat) t v, Tryd.f6.params[j]? = some t → args[j]? = some v → Value.okWide Tryd.prog W .any base t v)
    (hW : DataW.Whole enc Tryd.prog Tryd.f6.params.toList Rows.selectionLatestSpec.vars false W args.toList ds gs before) (hk : Rows.uptoSmall H (ds ++ gs) = true) (hG : Glob W) :
    Calls Tryd.prog 6 args W fun e W' => ∃ v, e = .returned v ∧ Rows.selectionLatestSpec.post enc Tryd.prog Tryd.f6 false true false false W args v W' := by
  have hW' := hW
  obtain ⟨p, q, hA0, hV, rfl, hfz, hnd⟩ := hW
  have hA : DataW.TrodAll enc Tryd.prog W 0 (fun _ => true) true Tryd.f6.params.toList args.toList ds p := hA0
  rw [Tryd.params6] at hA hval
  obtain ⟨v0, vs0, d0, ds0, p0, q0, hargs, rfl, rfl, h0, r0⟩ := trodAll_cons hA
  obtain ⟨v1, vs1, d1, ds1, p1, q1, rfl, rfl, rfl, h1, r1⟩ := trodAll_cons r0
  obtain ⟨rfl, rfl, rfl⟩ := trodAll_nil r1
  obtain rfl : args = #[v0, v1] := by cases args; simp_all
  obtain ⟨rfl, rfl⟩ := trodVars_none hV
  obtain ⟨A0, c0, L0, rfl, hS0, hO0, _, hN0⟩ := open_sl Tryd.underlying22 (opens_manifests W 1048576) (hval 0 22 v0 rfl rfl) h0 (by have := bulk_of hk; simp only [List.append_nil, Rows.uptoBulkAll] at this; omega)
  have hl0 : L0.length ≤ 1048576 := by omega
  obtain ⟨r1x, rfl, hO1⟩ := open_st Tryd.underlying29 (opens_manifest W 1048576) (hval 1 29 v1 rfl rfl) h1 (by have := bulk_of hk; simp only [List.append_nil, Rows.uptoBulkAll] at this; omega)
  clear hA0
  have hw := walk A0 c0 L0 r1x W hS0 hO0 hl0 hO1 hG
  refine hw.mono fun e W' ⟨he, hb⟩ => ?_
  subst he
  exact ⟨_, rfl, law_post hW' rfl (by kernel_rfl) (by kernel_rfl) rfl rfl rfl hb⟩

set_option maxRecDepth 100000 in
theorem reads (os : Os) {H : Type} (enc : TypeId × Value → H) : ∃ places, DataW.whole enc Tryd.prog ((laidWorld os).forCall (fun _ _ => 0) ⟨#[], #[.slice none 0 0, .agg #[.string ByteArray.empty, .int .i64 0, .int .i64 0, .int .i64 0, .slice none 0 0]], []⟩).memory Tryd.f6.params.toList Rows.selectionLatestSpec.vars false (#[.slice none 0 0, .agg #[.string ByteArray.empty, .int .i64 0, .int .i64 0, .int .i64 0, .slice none 0 0]] : Array Value).toList 8 = some ([.nil, .agg [.agg [.lit (.string []), .agg [.lit (.int .i64 0), .lit (.int .i64 0), .lit (.int .i64 0)]], .nil]], [], places) :=
  ⟨[], by kernel_rfl⟩

set_option maxRecDepth 100000 in
theorem lifted (os : Os) (started : os.Started) (H : Type) (enc : TypeId × Value → H) (F : Stop.Interp) :
    ReturnsInHanded {} Tryd.checked os 6 .any ((Rows.OpenSpec.upto Rows.selectionLatestSpec).preRow enc Tryd.prog Tryd.f6 Rows.selectionLatestUptoRow.domain false Rows.selectionLatestUptoRow.laid) (((Rows.OpenSpec.upto Rows.selectionLatestSpec).at F).post enc Tryd.prog Tryd.f6 false true false false) := by
  obtain ⟨places, hx⟩ := reads os enc
  refine returnsInHanded_of_row (C := Tryd.checked) (s := Rows.OpenSpec.upto Rows.selectionLatestSpec) own started (by kernel_rfl) Tryd.func6
    (witness_row_at (enc := enc) (C := Tryd.checked) false (laidWorld os) #[.slice none 0 0, .agg #[.string ByteArray.empty, .int .i64 0, .int .i64 0, .int .i64 0, .slice none 0 0]] (World.laidAll_os _ _ _) (by kernel_rfl) (by kernel_rfl) (by kernel_rfl)
      (OpenSpec.preRow_of_cond 8 hx (by kernel_rfl) (fun k hk => by cases hk; kernel_rfl) (by kernel_rfl) (laid_met os _))) ?_
  intro W base args ds gs before hval hW _ hcond _ hL hsh _
  exact contract H enc W base args ds gs before hval hW (hcond _ rfl) (glob_of hL hsh)

set_option maxRecDepth 100000 in
theorem said : Rows.SelectionLatestUptoSaid :=
  OpenClaim.holds_of_cond 6 Tryd.f6 rfl rfl rfl rfl rfl rfl rfl ⟨rfl, rfl, rfl, rfl, rfl⟩ rfl rfl rfl rfl rfl (by kernel_rfl) Tryd.func6 (by kernel_rfl)
    (of_decide_eq_true (by kernel_rfl)) (by unfold Func.isWrapper; first | (rw [if_pos (by decide +kernel)]; kernel_rfl) | (rw [if_neg (by decide +kernel)]; exact ⟨rfl, rfl⟩))
    (fun os started H enc _ F => by rw [OpenClaim.pre_eq_preRow]; exact lifted os started H enc F)

set_option maxRecDepth 100000 in
theorem plain (f : FuncId) (fn : Func) (hf : Tryd.pinned.checked.prog.funcNamed "configlang/configlanglaw46.SelectionLatest" = some f) (hfn : Tryd.pinned.checked.prog.funcs[f]? = some fn) :
    false = Tryd.pinned.checked.prog.looks [] ∧ ∀ (j : Nat) t, fn.params[j]? = some t → Tryd.pinned.checked.prog.wantsStandIn t = false := by
  obtain rfl : f = 6 := Option.some.inj ((show Tryd.prog.funcNamed "configlang/configlanglaw46.SelectionLatest" = some 6 by kernel_rfl).symm.trans hf) |>.symm
  obtain rfl : fn = Tryd.f6 := (Option.some.inj (Tryd.func6.symm.trans hfn)).symm
  refine ⟨by kernel_rfl, fun j t ht => ?_⟩
  rw [Tryd.params6] at ht
  have hm : t = 22 ∨ t = 29 := by simpa using Array.mem_of_getElem? ht
  rcases hm with rfl | rfl
  · exact (show Tryd.prog.wantsStandIn 22 = false by kernel_rfl)
  · exact (show Tryd.prog.wantsStandIn 29 = false by kernel_rfl)

set_option maxRecDepth 100000 in
theorem card : Rows.SelectionLatestUptoCardSaid :=
  Claim7.holds_tied_plain_at .later [] _ _ _ _ said (fun _ h => by cases h) (by kernel_rfl) (fun _ h => by cases h) selectionLatestUpto_row_tie rfl ⟨rfl, rfl⟩ (by kernel_rfl) rfl plain (by kernel_rfl)
end Go.Proofs.YtfiilbdkhelhgaaDoor.lawLatest
