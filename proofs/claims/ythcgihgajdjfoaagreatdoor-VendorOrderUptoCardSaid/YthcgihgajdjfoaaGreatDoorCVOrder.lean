/- The law VendorOrder holds of every root, list of releases and lock of bulk at most 1048576: the tied card of the second form. No condition beside the row's own. -/
import Derived.Test.YthcgihgajdjfoaaGreatDoorV44
import Derived.Test.YthcgihgajdjfoaaGreatDoorV37
import Derived.Test.YthcgihgajdjfoaaGreatDoorV48
import Derived.BigQuiet
namespace Go.Proofs.YthcgihgajdjfoaaGreatDoor.lawVOrder
open Go.ChangeShapes Go.WideShapes Go.ChangeAt Go.RowKit
open Go.ChangeMaps (open_string shut_string)

theorem lock_zero {L : List Rel} (h : (lockP L).2 = 0) : lerr L = 0 := by
  by_cases h0 : lerr L = 0
  · exact h0
  · rw [lockP_bad h0] at h
    exact absurd h h0
theorem flatR_one (Q : List RelA) (q : RelA) : (Q ++ [q]).flatMap encR = Q.flatMap encR ++ [.string ⟨q.m.1.toArray⟩, .int .i64 q.m.2.1, .int .i64 q.m.2.2.1, .int .i64 q.m.2.2.2, .slice q.A q.l.length q.c, .slice q.A' q.s.length q.c'] := by
  rw [List.flatMap_append, List.flatMap_singleton]
  rfl
set_option maxRecDepth 100000 in
theorem frame96_67_68_69_70_71_72_73_74_13_14 {Q : Exit → Act → World → Prop} {W : World} {fs : List Fact} (t0 t1 t2 t3 t4 t5 t6 t7 t8 t9 t10 t11 t12 t13 t14 t15 t16 t17 t18 t19 t20 t21 t22 t23 t24 t25 t26 t27 t28 t29 t30 t31 t32 t33 t34 t35 t36 t37 t38 t39 t40 t41 t42 t43 t44 t45 t46 t47 t48 t49 t50 t51 t52 t53 t54 t55 t56 t57 t58 t59 t60 t61 t62 t63 t64 t65 t66 t67 t68 t69 t70 t71 t72 t73 t74 t75 t76 t77 t78 t79 t80 t81 t82 t83 t84 t85 t86 t87 t88 t89 t90 t91 t92 t93 t94 t95 v0 v1 v2 v3 v4 v5 v6 v7 v8 v9 : Value) (h : Q .normal (Act.mk #[t0, t1, t2, t3, t4, t5, t6, t7, t8, t9, t10, t11, t12, v8, v9, t15, t16, t17, t18, t19, t20, t21, t22, t23, t24, t25, t26, t27, t28, t29, t30, t31, t32, t33, t34, t35, t36, t37, t38, t39, t40, t41, t42, t43, t44, t45, t46, t47, t48, t49, t50, t51, t52, t53, t54, t55, t56, t57, t58, t59, t60, t61, t62, t63, t64, t65, t66, v0, v1, v2, v3, v4, v5, v6, v7, t75, t76, t77, t78, t79, t80, t81, t82, t83, t84, t85, t86, t87, t88, t89, t90, t91, t92, t93, t94, t95] []) W) : FinAll W (fun A => Q .normal A W) [] fs (Act.put (Act.put (Act.put (Act.put (Act.put (Act.put (Act.put (Act.put (Act.put (Act.put (Act.mk #[t0, t1, t2, t3, t4, t5, t6, t7, t8, t9, t10, t11, t12, t13, t14, t15, t16, t17, t18, t19, t20, t21, t22, t23, t24, t25, t26, t27, t28, t29, t30, t31, t32, t33, t34, t35, t36, t37, t38, t39, t40, t41, t42, t43, t44, t45, t46, t47, t48, t49, t50, t51, t52, t53, t54, t55, t56, t57, t58, t59, t60, t61, t62, t63, t64, t65, t66, t67, t68, t69, t70, t71, t72, t73, t74, t75, t76, t77, t78, t79, t80, t81, t82, t83, t84, t85, t86, t87, t88, t89, t90, t91, t92, t93, t94, t95] []) (some 67) v0) (some 68) v1) (some 69) v2) (some 70) v3) (some 71) v4) (some 72) v5) (some 73) v6) (some 74) v7) (some 13) v8) (some 14) v9) :=
  fin_end (by kernel_rfl) h
set_option maxRecDepth 100000 in
set_option maxHeartbeats 8000000 in
theorem walk (y0 : ManW) (A : Option Addr) (c : Nat) (L : List RelA) (s : List UInt8) (w : World) (hO1 : inW w 1048576 y0) (hS : Sl w w.heap.size 6 encR A L) (hO : ∀ r ∈ L, inR w 1048576 r) (_hl : L.length ≤ 1099511627776) (hls : s.length ≤ 1048576) (hG : Glob w) :
    Calls Tryz.prog 10 #[.agg (encW y0).toArray, .slice A L.length c, .string ⟨s.toArray⟩] w fun e w' => e = .returned (.bool true) ∧ Below w.heap.size w w' := by
  have HS := Lib.hid hS
  have HO := Lib.hid hO
  have H1 := Lib.hid hO1
  have HG := Lib.hid hG
  clear hS hO hG _hl hO1
  have HB0 := Lib.hid (show Below w.heap.size w (w.alloc (.cells (encW y0).toArray 29)) from (Below.refl _ _).alloc (Nat.le_refl _) _)
  have Q0 := Lib.hid (Blk.new w 29 (encW y0).toArray)
  have cS := Lib.hid (fun W (hW : Below w.heap.size w W) => smallL_any A c L W ((HS.out.below hW).more hW.size) fun r hr => (HO.out r hr).ok.below hW)
  have cM := Lib.hid (fun W (hW : Below w.heap.size w W) => smallMan_any y0.1 y0.2.1 y0.2.2.1 y0.2.2.2 W ((H1.out.2.1.below hW).more hW.size))
  have hs47 : s.length ≤ 140737488355327 := by omega
  have HL := Lib.hid (fun (h : smallL L) (h1 : smallM y0.1 y0.2.2.2) => show (rdiffP (L.map RelA.rel) (unlockP s).1).length ≤ sortCap2 ∧ (outR y0.1.1 y0.2.2.2 (L.map RelA.rel)).length ≤ sortCap2 ∧ (verifyP y0.1.1 y0.2.2.2 (L.map RelA.rel) s).length ≤ 1099511627776 from by
    have hl10 : (L.map RelA.rel).length ≤ 10 := by rw [List.length_map]; exact h.1
    have h2 := rdiff_len (L.map RelA.rel) (unlockP s).1
    have h3 := (unlock_inv s).2.2
    have h4 := out_len y0.1.1 y0.2.2.2 (L.map RelA.rel)
    have h5 := reqs_len (rl := y0.2.2.2) (Nat.le_trans h1.n (by decide)) (L := L.map RelA.rel) fun r hr => by
      obtain ⟨q, hq, rfl⟩ := List.mem_map.1 hr
      exact Nat.le_trans (h.2 q hq).m.n (by decide)
    have h6 := verify_len y0.1.1 y0.2.2.2 (L.map RelA.rel) s
    unfold sortCap2
    refine ⟨by omega, by omega, by omega⟩)
  have HPm := Lib.hid (show (L.reverse.map RelA.rel).Perm (L.map RelA.rel) from (List.reverse_perm L).map _)
  have cV1 := Lib.hid (fun (h : smallL L) (h1 : smallM y0.1 y0.2.2.2) W (hW : Below w.heap.size w W) => VerifyC_any sortsI_many y0 A c L s W ((((h1.manOk H1.out).keep hW).more hW.size)).manS ((HS.out.below hW).more hW.size) (fun r hr => ((h.rels HO.out r hr).below hW).relM) ((h1.manOk H1.out).mods) (Nat.le_trans h.1 (by decide)) hs47 (HG.out.keep hW) (HL.out h h1).1 fun _ => (HL.out h h1).2.1)
  have cV2 := Lib.hid (fun (h : smallL L) (h1 : smallM y0.1 y0.2.2.2) (h0 : (lockP (L.map RelA.rel)).2 = 0) A4 c4 W (hW : Below w.heap.size w W) (hA4 : Sl W W.heap.size 6 encR A4 L.reverse) => show Calls Tryz.prog 22 #[.agg #[.string ⟨y0.1.1.toArray⟩, .int .i64 y0.1.2.1, .int .i64 y0.1.2.2.1, .int .i64 y0.1.2.2.2, .slice y0.2.1 y0.2.2.2.length y0.2.2.1], .slice A4 L.length c4, .string ⟨s.toArray⟩] W (RetI W (verifyP y0.1.1 y0.2.2.2 (L.map RelA.rel) s)) from by
    have hv := VerifyC_any (cap := sortCap2) sortsI_many y0 A4 c4 L.reverse s W ((((h1.manOk H1.out).keep hW).more hW.size)).manS hA4 (fun r hr => ((h.rels HO.out r (List.mem_reverse.1 hr)).below hW).relM) ((h1.manOk H1.out).mods) (Nat.le_trans (Nat.le_of_eq (List.length_reverse ..)) (Nat.le_trans h.1 (by decide))) hs47 (HG.out.keep hW)
      (Nat.le_trans (rdiff_len _ _) (by have h3 := (unlock_inv s).2.2; have h4 := h.1; rw [List.length_map, List.length_reverse]; unfold sortCap2; omega))
      (fun _ => by rw [outR_perm HPm.out]; exact (HL.out h h1).2.1)
    rw [List.length_reverse, verify_perm HPm.out (lock_zero h0)] at hv
    exact hv)
  have cL1 := Lib.hid (fun (h : smallL L) W (hW : Below w.heap.size w W) => Lock_any A c L W ((HS.out.below hW).more hW.size) (fun r hr => (HO.out r hr).ok.below hW) (HG.out.keep hW) (Nat.le_trans h.1 (by decide)))
  have cL2 := Lib.hid (fun (h : smallL L) A4 c4 W (hW : Below w.heap.size w W) (hA4 : Sl W W.heap.size 6 encR A4 L.reverse) => show Calls Tryz.prog 17 #[.slice A4 L.length c4] W (RetLk W (lockP (L.reverse.map RelA.rel))) from by
    have hv := Lock_any A4 c4 L.reverse W hA4 (fun r hr => (HO.out r (List.mem_reverse.1 hr)).ok.below hW) (HG.out.keep hW) (Nat.le_trans (Nat.le_of_eq (List.length_reverse ..)) (Nat.le_trans h.1 (by decide)))
    rw [List.length_reverse] at hv
    exact hv)
  have HLk := Lib.hid (lockP_perm HPm.out)
  have HVl := Lib.hid (fun h h1 => (HL.out h h1).2.2)
  have HL10 := Lib.hid (fun (h : smallL L) => h.1)
  have cX := Lib.hid (fun W (hW : Below w.heap.size w W) => awake_any W (HG.out.keep hW))
  clear HL hls HPm
  obtain ⟨rm, A0, c0, l0⟩ := y0
  simp only at cS cM cV1 cV2 HVl
  generalize smallL L = P at cS cV1 cV2 cL1 cL2 HVl HL10
  generalize smallM rm l0 = P1 at cM cV1 cV2 HVl
  generalize verifyP rm.1 l0 (L.map RelA.rel) s = V at cV1 cV2 HVl
  generalize lockP (L.map RelA.rel) = p1 at cV2 cL1 HLk
  generalize lockP (L.reverse.map RelA.rel) = p2 at cL2 HLk
  obtain ⟨s1, e1⟩ := p1
  obtain ⟨s2, f1⟩ := p2
  unfold RetSm at cS cM
  unfold RetI at cV1 cV2
  unfold RetLk at cL1 cL2
  simp only at cL1 cL2 HLk cV2
  obtain ⟨hst, hef⟩ := HLk.out
  subst hst
  have HEF := Lib.hid hef
  clear hef HLk
  simp only [encW] at Q0 HB0 ⊢
  go_enter Tryz.func10, Tryz.ntmps10
  go_wp2_with fail
  refine (cS.out _ HB0.out).mono ?_
  rintro e w1 ⟨b, rfl, hbi, hb1⟩
  have HB1 := Lib.hid (HB0.out.trans (hb1.mono HB0.out.size))
  have Q1 := Lib.hid (Q0.out.keep hb1)
  have HBI := Lib.hid hbi
  clear hb1 hbi cS
  cases b
  · go_wp2_with fail
    refine (cX.out _ HB1.out).mono ?_
    rintro e w2 ⟨rfl, hb2⟩
    have HB2 := Lib.hid (HB1.out.trans (hb2.mono HB1.out.size))
    clear hb2 cX
    go_wp2
    go_ret
    exact ⟨rfl, HB2.out⟩
  have HP := Lib.hid (show P from HBI.out rfl)
  clear HBI
  obtain ⟨y0, y1, y2, y3, y4⟩ := manC Q1.out
  go_wp2_with fail
  refine (cM.out _ HB1.out).mono ?_
  rintro e w1' ⟨b, rfl, hbi, hb1'⟩
  have HB1' := Lib.hid (HB1.out.trans (hb1'.mono HB1.out.size))
  have Q1' := Lib.hid (Q1.out.keep hb1')
  have HBI := Lib.hid hbi
  clear hb1' hbi cM y0 y1 y2 y3 y4
  cases b
  · go_wp2_with fail
    refine (cX.out _ HB1'.out).mono ?_
    rintro e w2 ⟨rfl, hb2⟩
    have HB2 := Lib.hid (HB1'.out.trans (hb2.mono HB1'.out.size))
    clear hb2 cX
    go_wp2
    go_ret
    exact ⟨rfl, HB2.out⟩
  have HP1 := Lib.hid (show P1 from HBI.out rfl)
  clear HBI
  by_cases h6 : (600 : Int) < (s.length : Int)
  · have h6d := decide_eq_true h6
    go_wp2_with fail
    refine (cX.out _ HB1'.out).mono ?_
    rintro e wz ⟨rfl, hbz⟩
    have HBz := Lib.hid (HB1'.out.trans (hbz.mono HB1'.out.size))
    clear hbz cX
    go_wp2
    go_ret
    exact ⟨rfl, HBz.out⟩
  have h6d := decide_eq_false h6
  have h6' : (s.length : Int) ≤ 600 := by omega
  have cV1 := Lib.hid (cV1.out HP.out HP1.out)
  have cV2 := Lib.hid (cV2.out HP.out HP1.out)
  have cL1 := Lib.hid (cL1.out HP.out)
  have cL2 := Lib.hid (cL2.out HP.out)
  have HVl := Lib.hid (HVl.out HP.out HP1.out)
  have hl10 := HL10.out HP.out
  clear HL10 HP HP1
  generalize w1' = wp at HB1' Q1'
  have wl : IntKind.i64.wrap ((L.length : Int) - 1) = (L.length : Int) - 1 := by rw [IntKind.wrap_i64]; omega
  go_wp2_with fail
  go_loopw [7, 8] (fun v i wr => ∃ (d k : Nat) (i0 : Int) (A4 : Option Addr) (c4 : Nat), d + k = L.length ∧ i = .int .i64 i0 ∧ i0 = (d : Int) - 1 ∧ v = .slice A4 k c4 ∧ Hid (Acc wr wp.heap.size 62 6 (.slice A4 k c4) k ((L.drop d).reverse.flatMap encR)) ∧ Hid (Below wp.heap.size wp wr)) (fun _ i _ => (intOf i + 1).toNat)
  case atStart => exact ⟨L.length, 0, _, none, 0, rfl, rfl, rfl, rfl, Lib.hid (by rw [List.drop_length]; exact Acc.nil_ _ _ _ _), Lib.hid (Below.refl _ _)⟩
  case round =>
    obtain ⟨d, k, i0, A4, c4, hdk, rfl, hi0, rfl, HA4, HBr⟩ := hrel
    have HBw := Lib.hid (HB1'.out.trans (HBr.out.mono HB1'.out.size))
    rcases d with _ | j
    · obtain rfl : i0 = -1 := by omega
      clear hi0 wl
      obtain rfl : k = L.length := by omega
      clear hdk
      have HS4 := Lib.hid (show Sl wr wr.heap.size 6 encR A4 L.reverse from HA4.out.slAny encR_len (by decide))
      have QM := Lib.hid (Q1'.out.keep HBr.out)
      clear HA4
      have cc := Lib.hid (cL1.out wr HBw.out)
      go_wp2_with fail
      refine cc.out.mono ?_
      rintro e w2 ⟨rfl, hb2⟩
      have HB2 := Lib.hid (HBw.out.trans (hb2.mono HBw.out.size))
      have HS2 := Lib.hid ((HS4.out.below hb2).more hb2.size)
      have Q2 := Lib.hid (QM.out.keep hb2)
      have cd := Lib.hid (cL2.out A4 c4 w2 HB2.out HS2.out)
      clear hb2 cc cL1 cL2 HS4 QM
      go_wp2_with fail
      refine cd.out.mono ?_
      rintro e w3 ⟨rfl, hb3⟩
      have HBq := Lib.hid (HB2.out.trans (hb3.mono HB2.out.size))
      have HS3 := Lib.hid ((HS2.out.below hb3).more hb3.size)
      have Q3 := Lib.hid (Q2.out.keep hb3)
      clear hb3 cd HS2 Q2
      by_cases h0 : e1 = 0
      rotate_left
      · have hf : ¬ f1 = 0 := fun h => h0 (HEF.out.1 h)
        have hd : decide (e1 = 0) = false := decide_eq_false h0
        have hbe : (e1 == 0) = false := beq_eq_false_iff_ne.2 h0
        have hd' : decide (f1 = 0) = false := decide_eq_false hf
        have hbe' : (f1 == 0) = false := beq_eq_false_iff_ne.2 hf
        clear h0 hf
        go_wp2_with fail
        refine (cX.out _ HBq.out).mono ?_
        rintro e wz ⟨rfl, hbz⟩
        have HBz := Lib.hid (HBq.out.trans (hbz.mono HBq.out.size))
        clear hbz cX
        go_wp2
        go_ret
        exact ⟨rfl, HBz.out⟩
      obtain rfl : f1 = 0 := HEF.out.2 h0
      have cV2b := Lib.hid (fun W (hW : Below w.heap.size w W) (hW3 : Below w3.heap.size w3 W) => cV2.out h0 A4 c4 W hW ((HS3.out.below hW3).more hW3.size))
      clear cV2
      subst h0
      have hd0 : decide ((0 : Int) = 0) = true := by decide
      obtain ⟨y0, y1, y2, y3, y4⟩ := manC Q3.out
      have hz0 : w.heap.size < w3.heap.size := Q3.out.lt
      clear HEF HS3 HBr HBw HB2 Q3
      generalize hwq : w3 = wq at HBq y0 y1 y2 y3 y4 hz0 cV2b ⊢
      clear hwq
      go_upto_region 14 with fail
      apply wp_region_facts (by kernel_rfl) [isv _, isv _, isv _, (fun v W => ∃ (A : Option Addr) (c : Nat), v = .slice A V.length c ∧ Sl W W.heap.size 2 encI A V), isv _, isv _, isv _, (fun v W => ∃ (A : Option Addr) (c : Nat), v = .slice A V.length c ∧ Sl W W.heap.size 2 encI A V), (fun v W => ∃ (A : Option Addr) (c : Nat), v = .slice A V.length c ∧ Sl W W.heap.size 2 encI A V), (fun v W => ∃ (A : Option Addr) (c : Nat), v = .slice A V.length c ∧ Sl W W.heap.size 2 encI A V)] wq.heap.size wq (Nat.le_refl _) (Below.refl _ _).drew (by kernel_rfl) (by kernel_rfl) (by kernel_rfl) (And.intro (isv_mono _) (And.intro (isv_mono _) (And.intro (isv_mono _) (And.intro (fun _ _ _ ⟨A, c, e, h1⟩ hb => ⟨A, c, e, (h1.below hb).more hb.size⟩) (And.intro (isv_mono _) (And.intro (isv_mono _) (And.intro (isv_mono _) (And.intro (fun _ _ _ ⟨A, c, e, h1⟩ hb => ⟨A, c, e, (h1.below hb).more hb.size⟩) (And.intro (fun _ _ _ ⟨A, c, e, h1⟩ hb => ⟨A, c, e, (h1.below hb).more hb.size⟩) (And.intro (fun _ _ _ ⟨A, c, e, h1⟩ hb => ⟨A, c, e, (h1.below hb).more hb.size⟩) trivial)))))))))) ?steps (by rfl) ?fin
      case steps =>
        refine (And.intro ?o0 (And.intro ?o1 (And.intro ?o2 (And.intro ?o3 (And.intro ?o4 (And.intro ?o5 (And.intro ?o6 (And.intro ?o7 (And.intro ?o8 (And.intro ?o9 trivial))))))))))
        case o0 =>
          intro AA W KK QQ hB hs hd hl hk
          have sl3 := hs 3 _ (by kernel_rfl) rfl
          clear hs hd hl
          have hx0 := hB.cell (p := ⟨w.heap.size, 0, none⟩) hz0
          have hx1 := hB.cell (p := ⟨w.heap.size, 1, none⟩) hz0
          have hx2 := hB.cell (p := ⟨w.heap.size, 2, none⟩) hz0
          have hx3 := hB.cell (p := ⟨w.heap.size, 3, none⟩) hz0
          have hx4 := hB.cell (p := ⟨w.heap.size, 4, none⟩) hz0
          rw [y0] at hx0
          rw [y1] at hx1
          rw [y2] at hx2
          rw [y3] at hx3
          rw [y4] at hx4
          go_simp
          exact hk _ _ rfl (Below.refl _ _)
        case o1 =>
          intro AA W KK QQ hB hs hd hl hk
          have sl1 := hs 1 _ (by kernel_rfl) rfl
          clear hs hd hl
          go_simp
          exact hk _ _ rfl (Below.refl _ _)
        case o2 =>
          intro AA W KK QQ hB hs hd hl hk
          have sl2 := hs 2 _ (by kernel_rfl) rfl
          clear hs hd hl
          go_simp
          exact hk _ _ rfl (Below.refl _ _)
        case o3 =>
          intro AA W KK QQ hB hs hd hl hk
          obtain ⟨_, sl67, rfl⟩ := hd 0 67 (by kernel_rfl) rfl
          obtain ⟨_, sl68, rfl⟩ := hd 1 68 (by kernel_rfl) rfl
          obtain ⟨_, sl69, rfl⟩ := hd 2 69 (by kernel_rfl) rfl
          clear hs hd hl
          go_simp
          refine (cV1.out W (HBq.out.trans (hB.mono HBq.out.size))).mono ?_
          rintro e W2 ⟨A9, c9, rfl, _, hS9, hb2⟩
          exact hk _ _ ⟨_, _, rfl, hS9⟩ hb2
        case o4 =>
          intro AA W KK QQ hB hs hd hl hk
          have sl3 := hs 3 _ (by kernel_rfl) rfl
          clear hs hd hl
          have hx0 := hB.cell (p := ⟨w.heap.size, 0, none⟩) hz0
          have hx1 := hB.cell (p := ⟨w.heap.size, 1, none⟩) hz0
          have hx2 := hB.cell (p := ⟨w.heap.size, 2, none⟩) hz0
          have hx3 := hB.cell (p := ⟨w.heap.size, 3, none⟩) hz0
          have hx4 := hB.cell (p := ⟨w.heap.size, 4, none⟩) hz0
          rw [y0] at hx0
          rw [y1] at hx1
          rw [y2] at hx2
          rw [y3] at hx3
          rw [y4] at hx4
          go_simp
          exact hk _ _ rfl (Below.refl _ _)
        case o5 =>
          intro AA W KK QQ hB hs hd hl hk
          have sl7 := hs 7 _ (by kernel_rfl) rfl
          clear hs hd hl
          go_simp
          exact hk _ _ rfl (Below.refl _ _)
        case o6 =>
          intro AA W KK QQ hB hs hd hl hk
          have sl2 := hs 2 _ (by kernel_rfl) rfl
          clear hs hd hl
          go_simp
          exact hk _ _ rfl (Below.refl _ _)
        case o7 =>
          intro AA W KK QQ hB hs hd hl hk
          obtain ⟨_, sl71, rfl⟩ := hd 4 71 (by kernel_rfl) rfl
          obtain ⟨_, sl72, rfl⟩ := hd 5 72 (by kernel_rfl) rfl
          obtain ⟨_, sl73, rfl⟩ := hd 6 73 (by kernel_rfl) rfl
          clear hs hd hl
          go_simp
          refine (cV2b.out W (HBq.out.trans (hB.mono HBq.out.size)) (hB.trans (Below.refl _ _))).mono ?_
          rintro e W2 ⟨A9, c9, rfl, _, hS9, hb2⟩
          exact hk _ _ ⟨_, _, rfl, hS9⟩ hb2
        case o8 =>
          intro AA W KK QQ hB hs hd hl hk
          obtain ⟨_, sl70, ⟨Aa, ca, rfl, hSa⟩⟩ := hd 3 70 (by kernel_rfl) rfl
          clear hs hd hl
          go_simp
          exact hk _ _ ⟨_, _, rfl, hSa⟩ (Below.refl _ _)
        case o9 =>
          intro AA W KK QQ hB hs hd hl hk
          obtain ⟨_, sl74, ⟨Ab, cb, rfl, hSb⟩⟩ := hd 7 74 (by kernel_rfl) rfl
          clear hs hd hl
          go_simp
          exact hk _ _ ⟨_, _, rfl, hSb⟩ (Below.refl _ _)
      case fin =>
        intro wf hB
        refine fin_isv 67 rfl ?_
        refine fin_isv 68 rfl ?_
        refine fin_isv 69 rfl ?_
        refine fin_fact 70 rfl ?_
        rintro _ ⟨_, _, rfl, _⟩
        refine fin_isv 71 rfl ?_
        refine fin_isv 72 rfl ?_
        refine fin_isv 73 rfl ?_
        refine fin_fact 74 rfl ?_
        rintro _ ⟨_, _, rfl, _⟩
        refine fin_fact 13 rfl ?_
        rintro _ ⟨Aa, ca, rfl, hSa⟩
        refine fin_fact 14 rfl ?_
        rintro _ ⟨Ab, cb, rfl, hSb⟩
        refine frame96_67_68_69_70_71_72_73_74_13_14 _ _ _ _ _ _ _ _ _ _ _ _ _ _ _ _ _ _ _ _ _ _ _ _ _ _ _ _ _ _ _ _ _ _ _ _ _ _ _ _ _ _ _ _ _ _ _ _ _ _ _ _ _ _ _ _ _ _ _ _ _ _ _ _ _ _ _ _ _ _ _ _ _ _ _ _ _ _ _ _ _ _ _ _ _ _ _ _ _ _ _ _ _ _ _ _ _ _ _ _ _ _ _ _ _ _ ?_
        have HBf := Lib.hid (HBq.out.trans (hB.mono HBq.out.size))
        have HSa := Lib.hid hSa
        have HSb := Lib.hid hSb
        clear hSa hSb hB cV1 cV2b y0 y1 y2 y3 y4
        have hvl := HVl.out
        have hvd : decide ((V.length : Int) = (V.length : Int)) = true := by simp
        go_wp2_with fail
        go_loopw [15] (fun i wr => ∃ k : Nat, k ≤ V.length ∧ i = .int .i64 (k : Nat) ∧ Hid (Below wf.heap.size wf wr)) (fun i _ => V.length - (intOf i).toNat)
        case atStart => exact ⟨0, Nat.zero_le _, rfl, Lib.hid (Below.refl _ _)⟩
        case round =>
          obtain ⟨k, hk, rfl, HBr⟩ := hrel
          by_cases hlt : k < V.length
          · have hlt' : (k : Int) < (V.length : Int) := by omega
            have hk0 : (0 : Int) ≤ (k : Int) := by omega
            obtain ⟨b, o, rfl, _, g0, g1⟩ := ((HSa.out.below HBr.out).more HBr.out.size).iss hlt
            obtain ⟨b', o', rfl, _, f0, f1⟩ := ((HSb.out.below HBr.out).more HBr.out.size).iss hlt
            generalize V[k] = x at g0 g1 f0 f1
            have heq := fun W => eq_issV x.1 x.1 x.2 x.2 W
            simp only [decide_true] at heq
            go_upto_region 20 with fail
            go_quiet (fail)
            go_wp2
            go_roundw
            case rel => exact ⟨k + 1, by omega, by go_num, Lib.hid (HBr.out.drewN _)⟩
            case measure => simp [intOf]; omega
          · have hkv : k = V.length := by omega
            subst hkv
            have hlt' : ¬ (V.length : Int) < (V.length : Int) := by omega
            have HBz9 := Lib.hid (HBf.out.trans (HBr.out.mono HBf.out.size))
            go_wp2_with fail
            refine (cX.out _ HBz9.out).mono ?_
            rintro e wz ⟨rfl, hbz⟩
            have HBz := Lib.hid (HBz9.out.trans (hbz.mono HBz9.out.size))
            clear hbz cX
            go_wp2
            go_ret
            exact ⟨rfl, HBz.out⟩
    · obtain rfl : i0 = (j : Nat) := by omega
      clear hi0
      have hj : j < L.length := by omega
      have hjl : (j : Int) < (L.length : Int) := by omega
      have hj0 : (0 : Int) ≤ (j : Int) := by omega
      have wj : IntKind.i64.wrap ((j : Int) - 1) = (j : Int) - 1 := by rw [IntKind.wrap_i64]; omega
      have HD := Lib.hid (show (L.drop j).reverse = (L.drop (j + 1)).reverse ++ [L[j]] from by rw [← List.reverse_cons, List.getElem_cons_drop])
      obtain ⟨b, off, rfl, hbB, g0, g1, g2, g3, g4, g5⟩ := ((HS.out.below HBw.out).more HBw.out.size).rel hj
      generalize L[j] = r at g0 g1 g2 g3 g4 g5 HD
      have hbr := HBr.out.size
      have b0 : k + 1 ≤ maxLen := by unfold maxLen; omega
      have b1 : (k + 1) * 88 ≤ 140737488355328 := by omega
      go_wp2_with (at_builtin; refine wpList_app _ rfl (.tmp 37) (.tmp 42) 22 rfl wp.heap.size 62 6 88 elRels (.slice A4 k c4) k _ rfl (HA4.out.alloc _) _ 1 1 _ rfl (Src.lit _ 6 _ _ 1 rfl) (by simp [Value.oneCell']) b0 b1 (by simp; omega) ?_; intro v' w6 hacc6 _ hb6 _ _; obtain ⟨A6, c6, rfl⟩ := hacc6.shape)
      have HO6 := Lib.hid hacc6
      have HB6 := Lib.hid ((HBr.out.alloc HBr.out.size _).trans hb6)
      clear hacc6 hb6
      go_roundw
      case rel =>
        refine ⟨j, k + 1, _, A6, c6, by omega, by go_num, by omega, rfl, Lib.hid ?_, HB6⟩
        have h := HO6.out
        rw [HD.out, flatR_one]
        exact h
      case measure => first | (simp [intOf]; done) | (simp [intOf]; omega)

set_option maxRecDepth 100000 in
theorem contract (H : Type) (enc : TypeId × Value → H) (W : World) (base : Nat) (args : Array Value) (ds gs : List (DataW H)) (before : List MemPlace)
    (hval : ∀ (j : Nat) t v, Tryz.f10.params[j]? = some t → args[j]? = some v → Value.okWide Tryz.prog W .any base t v)
    (hW : DataW.Whole enc Tryz.prog Tryz.f10.params.toList Rows.vendorOrderSpec.vars false W args.toList ds gs before) (hk : Rows.uptoSmall H (ds ++ gs) = true) (hG : Glob W) :
    Calls Tryz.prog 10 args W fun e W' => ∃ v, e = .returned v ∧ Rows.vendorOrderSpec.post enc Tryz.prog Tryz.f10 false true false false W args v W' := by
  have hW' := hW
  obtain ⟨p, q, hA0, hV, rfl, hfz, hnd⟩ := hW
  have hA : DataW.TrodAll enc Tryz.prog W 0 (fun _ => true) true Tryz.f10.params.toList args.toList ds p := hA0
  rw [Tryz.params10] at hA hval
  obtain ⟨v0, vs0, d0, ds0, p0, q0, hargs, rfl, rfl, h0, r0⟩ := trodAll_cons hA
  obtain ⟨v1, vs1, d1, ds1, p1, q1, rfl, rfl, rfl, h1, r1⟩ := trodAll_cons r0
  obtain ⟨v2, vs2, d2, ds2, p2, q2, rfl, rfl, rfl, h2, r2⟩ := trodAll_cons r1
  obtain ⟨rfl, rfl, rfl⟩ := trodAll_nil r2
  obtain rfl : args = #[v0, v1, v2] := by cases args; simp_all
  obtain ⟨rfl, rfl⟩ := trodVars_none hV
  obtain ⟨r0x, rfl, hO0⟩ := open_st Tryz.underlying29 (opens_manifest W 1048576) (hval 0 29 v0 rfl rfl) h0 (by have := bulk_of hk; simp only [List.append_nil, Rows.uptoBulkAll] at this; omega)
  obtain ⟨A1, c1, L1, rfl, hS1, hO1, _, hN1⟩ := open_sl Tryz.underlying22 (opens_releases W 1048576 (by decide)) (hval 1 22 v1 rfl rfl) h1 (by have := bulk_of hk; simp only [List.append_nil, Rows.uptoBulkAll] at this; omega)
  have hl1 : L1.length ≤ 1099511627776 := by omega
  obtain ⟨s2, rfl, rfl, rfl, hmax2⟩ := open_string Tryz.underlying9 (hval 2 9 v2 rfl rfl) h2
  have hl2 : s2.data.toList.length ≤ 1048576 := by have := bulk_of hk; simp only [List.append_nil, Rows.uptoBulkAll, Rows.uptoBulk] at this; omega
  clear hA0
  have hw := walk r0x A1 c1 L1 s2.data.toList W hO0 hS1 hO1 hl1 hl2 hG
  refine hw.mono fun e W' ⟨he, hb⟩ => ?_
  subst he
  exact ⟨_, rfl, law_post hW' rfl (by kernel_rfl) (by kernel_rfl) rfl rfl rfl hb⟩

set_option maxRecDepth 100000 in
theorem reads (os : Os) {H : Type} (enc : TypeId × Value → H) : ∃ places, DataW.whole enc Tryz.prog ((laidWorld os).forCall (fun _ _ => 0) ⟨#[], #[.agg #[.string ByteArray.empty, .int .i64 0, .int .i64 0, .int .i64 0, .slice none 0 0], .slice none 0 0, .string ByteArray.empty], []⟩).memory Tryz.f10.params.toList Rows.vendorOrderSpec.vars false (#[.agg #[.string ByteArray.empty, .int .i64 0, .int .i64 0, .int .i64 0, .slice none 0 0], .slice none 0 0, .string ByteArray.empty] : Array Value).toList 8 = some ([.agg [.agg [.lit (.string []), .agg [.lit (.int .i64 0), .lit (.int .i64 0), .lit (.int .i64 0)]], .nil], .nil, .lit (.string [])], [], places) :=
  ⟨[], by kernel_rfl⟩

set_option maxRecDepth 100000 in
theorem lifted (os : Os) (started : os.Started) (H : Type) (enc : TypeId × Value → H) (F : Stop.Interp) :
    ReturnsInHanded {} Tryz.checked os 10 .any ((Rows.OpenSpec.upto Rows.vendorOrderSpec).preRow enc Tryz.prog Tryz.f10 Rows.vendorOrderUptoRow.domain false Rows.vendorOrderUptoRow.laid) (((Rows.OpenSpec.upto Rows.vendorOrderSpec).at F).post enc Tryz.prog Tryz.f10 false true false false) := by
  obtain ⟨places, hx⟩ := reads os enc
  refine returnsInHanded_of_row (C := Tryz.checked) (s := Rows.OpenSpec.upto Rows.vendorOrderSpec) own started (by kernel_rfl) Tryz.func10
    (witness_row_at (enc := enc) (C := Tryz.checked) false (laidWorld os) #[.agg #[.string ByteArray.empty, .int .i64 0, .int .i64 0, .int .i64 0, .slice none 0 0], .slice none 0 0, .string ByteArray.empty] (World.laidAll_os _ _ _) (by kernel_rfl) (by kernel_rfl) (by kernel_rfl)
      (OpenSpec.preRow_of_cond 8 hx (by kernel_rfl) (fun k hk => by cases hk; kernel_rfl) (by kernel_rfl) (laid_met os _))) ?_
  intro W base args ds gs before hval hW _ hcond _ hL hsh _
  exact contract H enc W base args ds gs before hval hW (hcond _ rfl) (glob_of hL hsh)


set_option maxRecDepth 100000 in
theorem pf_inPlace : (Rows.vendorOrderUptoRow.inPlace == Tryz.pinned.checked.prog.inPlace 10) = true := by kernel_rfl
set_option maxRecDepth 100000 in
theorem pf_unf : (Rows.vendorOrderUptoRow.unfollowed == Tryz.pinned.checked.prog.unfollowed 10) = true := by kernel_rfl
set_option maxRecDepth 100000 in
theorem pf_rec : (Rows.vendorOrderUptoRow.recurses == Tryz.pinned.checked.prog.recurses 10) = true := by kernel_rfl
set_option maxRecDepth 100000 in
theorem pf_named : (Rows.vendorOrderUptoRow.named == Tryz.pinned.checked.prog.varsNamed 10) = true := by kernel_rfl
set_option maxRecDepth 100000 in
theorem pf_closed : joinedFacts Tryz.pinned.checked.prog 10 Tryz.f10 (Rows.OpenSpec.upto Rows.vendorOrderSpec).bare Rows.vendorOrderUptoRow = true := by
  unfold joinedFacts
  exact (and2 (and2 (and2 (and2 (and2 (and2 (and2 (and2 (and2 (and2 (and2 (and2 (and2 (and2 (and2 (and2 (and2 (and2 (and2 (and2 (and2 (and2 (and2 (and2 (and2 (and2 (and2 (and2 (and2 (and2 (and2 (by kernel_rfl) pf_laid) pf_rowed) (by kernel_rfl)) (by kernel_rfl)) (by kernel_rfl)) (by kernel_rfl)) (by kernel_rfl)) (by kernel_rfl)) pf_inPlace) pf_unf) pf_rec) pf_named) (by kernel_rfl)) (by kernel_rfl)) (by kernel_rfl)) (by kernel_rfl)) (by kernel_rfl)) (by kernel_rfl)) (by kernel_rfl)) (by kernel_rfl)) (by kernel_rfl)) (by kernel_rfl)) (by kernel_rfl)) pf_heard) pf_enter) (pf_lifts Rows.vendorOrderUptoRow rfl)) (pf_make Rows.vendorOrderUptoRow rfl)) (by kernel_rfl)) (by kernel_rfl)) (by kernel_rfl)) (by kernel_rfl))

set_option maxRecDepth 100000 in
theorem said : Rows.VendorOrderUptoSaid :=
  OpenClaim.holds_of_cond 10 Tryz.f10 rfl rfl rfl rfl rfl rfl rfl ⟨rfl, rfl, rfl, rfl, rfl⟩ rfl rfl rfl rfl rfl (by kernel_rfl) Tryz.func10 pf_closed
    (of_decide_eq_true (by kernel_rfl)) (by unfold Func.isWrapper; first | (rw [if_pos (by decide +kernel)]; kernel_rfl) | (rw [if_neg (by decide +kernel)]; exact ⟨rfl, rfl⟩))
    (fun os started H enc _ F => by rw [OpenClaim.pre_eq_preRow]; exact lifted os started H enc F)

set_option maxRecDepth 100000 in
theorem plain (f : FuncId) (fn : Func) (hf : Tryz.pinned.checked.prog.funcNamed "configlang/configlanglaw48.VendorOrder" = some f) (hfn : Tryz.pinned.checked.prog.funcs[f]? = some fn) :
    true = Tryz.pinned.checked.prog.looks [] ∧ ∀ (j : Nat) t, fn.params[j]? = some t → Tryz.pinned.checked.prog.wantsStandIn t = false := by
  obtain rfl : f = 10 := Option.some.inj ((show Tryz.prog.funcNamed "configlang/configlanglaw48.VendorOrder" = some 10 by kernel_rfl).symm.trans hf) |>.symm
  obtain rfl : fn = Tryz.f10 := (Option.some.inj (Tryz.func10.symm.trans hfn)).symm
  refine ⟨by kernel_rfl, fun j t ht => ?_⟩
  rw [Tryz.params10] at ht
  have hm : t = 29 ∨ t = 22 ∨ t = 9 := by simpa using Array.mem_of_getElem? ht
  rcases hm with rfl | rfl | rfl
  · exact (show Tryz.prog.wantsStandIn 29 = false by kernel_rfl)
  · exact (show Tryz.prog.wantsStandIn 22 = false by kernel_rfl)
  · exact (show Tryz.prog.wantsStandIn 9 = false by kernel_rfl)

set_option maxRecDepth 100000 in
theorem card : Rows.VendorOrderUptoCardSaid :=
  Claim7.holds_tied_plain_at .later [] _ _ _ _ said (fun _ h => by cases h) (by kernel_rfl) (fun _ h => by cases h) vendorOrderUpto_row_tie rfl ⟨rfl, rfl⟩ (by kernel_rfl) rfl plain (by kernel_rfl)
end Go.Proofs.YthcgihgajdjfoaaGreatDoor.lawVOrder
