/- Walk: a build list and requirements (law46.meets). -/
import Derived.Test.YtfiilbdkhelhgaaDoorWH1
import Derived.Test.YtfiilbdkhelhgaaDoorFct
namespace Go.Proofs.YtfiilbdkhelhgaaDoor
open Go.RowKit Go.Sort

theorem Sl.first {W : World} {A : Option Addr} {l : List Mod} (h : Sl W W.heap.size 4 encM A l) (h0 : 0 < l.length) : ∃ b off, A = some ⟨b, off, none⟩ ∧ b < W.heap.size ∧ W.cell? ⟨b, off, none⟩ = some (.string ⟨(l.headD zmod).1.toArray⟩) := by
  obtain ⟨b, off, h1, h2, h3, _⟩ := h.mod h0
  refine ⟨b, off, h1, h2, ?_⟩
  cases l with
  | nil => simp at h0
  | cons x l => simpa using h3
set_option maxRecDepth 100000 in
theorem frame48_9d81f24a80 {Q : Exit → Act → World → Prop} {W : World} {fs : List Fact} (t0 t1 t2 t3 t4 t5 t6 t7 t8 t9 t10 t11 t12 t13 t14 t15 t16 t17 t18 t19 t20 t21 t22 t23 t24 t25 t26 t27 t28 t29 t30 t31 t32 t33 t34 t35 t36 t37 t38 t39 t40 t41 t42 t43 t44 t45 t46 t47 v0 v1 v2 v3 v4 v5 v6 v7 v8 v9 v10 v11 v12 v13 v14 v15 v16 v17 v18 v19 v20 v21 v22 v23 : Value) (h : Q .normal (Act.mk #[t0, t1, t2, t3, t4, t5, t6, t7, t8, t9, t10, t11, t12, t13, t14, t15, t16, t17, t18, t19, t20, t21, t22, t23, v0, v1, v2, v3, v4, v5, v6, v7, v8, v9, v10, v11, v12, v13, v14, v15, v16, v17, v18, v19, v20, v21, v22, v23] []) W) : FinAll W (fun A => Q .normal A W) [] fs (Act.put (Act.put (Act.put (Act.put (Act.put (Act.put (Act.put (Act.put (Act.put (Act.put (Act.put (Act.put (Act.put (Act.put (Act.put (Act.put (Act.put (Act.put (Act.put (Act.put (Act.put (Act.put (Act.put (Act.put (Act.mk #[t0, t1, t2, t3, t4, t5, t6, t7, t8, t9, t10, t11, t12, t13, t14, t15, t16, t17, t18, t19, t20, t21, t22, t23, t24, t25, t26, t27, t28, t29, t30, t31, t32, t33, t34, t35, t36, t37, t38, t39, t40, t41, t42, t43, t44, t45, t46, t47] []) (some 24) v0) (some 25) v1) (some 26) v2) (some 27) v3) (some 28) v4) (some 29) v5) (some 30) v6) (some 31) v7) (some 32) v8) (some 33) v9) (some 34) v10) (some 35) v11) (some 36) v12) (some 37) v13) (some 38) v14) (some 39) v15) (some 40) v16) (some 41) v17) (some 42) v18) (some 43) v19) (some 44) v20) (some 45) v21) (some 46) v22) (some 47) v23) :=
  fin_end (by kernel_rfl) h
set_option maxRecDepth 100000 in
set_option maxHeartbeats 4000000 in
theorem meets_any (A A2 : Option Addr) (c c2 : Nat) (l req : List Mod) (w : World) (hA : Sl w w.heap.size 4 encM A l) (hR : Sl w w.heap.size 4 encM A2 req) (hl0 : 0 < l.length) (hl : l.length ≤ 1099511627776) (hr : req.length ≤ 1099511627776) :
    Calls Tryd.prog 11 #[.slice A l.length c, .slice A2 req.length c2] w fun e w' => e = .returned (.bool (meetsP l req)) ∧ Below w.heap.size w w' := by
  have HA := Lib.hid hA
  have HR := Lib.hid hR
  have HL := Lib.hid hl
  obtain ⟨r, hres⟩ : ∃ r, r = meetsP l req := ⟨_, rfl⟩
  rw [← hres]
  have HE := Lib.hid hres
  have hl0' : (0 : Int) < (l.length : Int) := by omega
  clear hA hR hres hl
  go_enter Tryd.func11, Tryd.ntmps11
  go_wp2
  go_loopw [5] (fun i wr => ∃ k : Nat, k ≤ req.length ∧ i = .int .i64 (k : Nat) ∧ Hid (∀ x ∈ req.take k, meetX l x = true) ∧ Hid (Below w.heap.size w wr)) (fun i _ => req.length - (intOf i).toNat)
  case atStart => exact ⟨0, Nat.zero_le _, rfl, Lib.hid (by simp), Lib.hid (Below.refl _ _)⟩
  case round =>
    obtain ⟨wo, hwo⟩ : ∃ wo, wo = wr := ⟨_, rfl⟩
    subst hwo
    obtain ⟨k, hk, rfl, HJ, HB⟩ := hrel
    by_cases hlt : k < req.length
    · have hlt' : (k : Int) < (req.length : Int) := by omega
      have HAo := Lib.hid ((HA.out.below HB.out).more HB.out.size)
      have HRo := Lib.hid ((HR.out.below HB.out).more HB.out.size)
      obtain ⟨b, off, hA1, hbB0, g0, g1, g2, g3⟩ := HRo.out.mod hlt
      have HTk := Lib.hid (List.take_succ_eq_append_getElem hlt)
      have HNo := Lib.hid (fun (h : meetX l req[k] = false) => show r = false from by
        rw [HE.out]
        unfold meetsP
        rw [List.all_eq_false]
        exact ⟨req[k], List.getElem_mem _, by simp [h]⟩)
      generalize req[k] = x at g0 g1 g2 g3 HTk HNo
      have cH0 := has_any A c l x.1 wo HAo.out HL.out
      unfold RetH at cH0
      have hvp : ∀ g, hasV l x.1 = some g → g.1 = x.1 := fun g h => (hasV_some h).2
      have hmx0 : meetX l x = (decide (x.1 = (l.headD zmod).1) || match hasV l x.1 with | none => false | some v => decide (0 ≤ vcmpV v.2 x.2)) := rfl
      have HMX := Lib.hid hmx0
      generalize hasV l x.1 = hv at cH0 HMX
      obtain ⟨g, hg⟩ : ∃ g, g = hv.getD zmod := ⟨_, rfl⟩
      rw [← hg] at cH0
      have HGG := Lib.hid hg
      have cH := Lib.hid cH0
      have HA1 := Lib.hid hA1
      subst hA1
      clear cH0 hg hvp hmx0
      go_wp2_with fail
      refine cH.out.mono ?_
      rintro e w4 ⟨rfl, hb4⟩
      have HA4 := Lib.hid (show Below w4.heap.size w4 (w4.alloc (.cells #[.int .i64 g.2.1, .int .i64 g.2.2.1, .int .i64 g.2.2.2] 24)) from (Below.refl _ _).alloc (Nat.le_refl _) _)
      have V4 := Lib.hid (Blk.new w4 24 #[.int .i64 g.2.1, .int .i64 g.2.2.1, .int .i64 g.2.2.2])
      have HB4 := Lib.hid (HB.out.trans ((hb4.trans (HA4.out.mono hb4.size)).mono HB.out.size))
      have hb45 := hb4.trans (HA4.out.mono hb4.size)
      have e0 := (hb45.cell (p := ⟨b, off + k * 4, none⟩) hbB0).trans g0
      have e1 := (hb45.cell (p := ⟨b, off + k * 4 + 1, none⟩) hbB0).trans g1
      have e2 := (hb45.cell (p := ⟨b, off + k * 4 + 2, none⟩) hbB0).trans g2
      have e3 := (hb45.cell (p := ⟨b, off + k * 4 + 3, none⟩) hbB0).trans g3
      obtain ⟨bl, ol, hAl, hbl0, u0'⟩ := HAo.out.first hl0
      have u0 := (hb45.cell (p := ⟨bl, ol, none⟩) hbl0).trans u0'
      have hbB : b < (w4.alloc (.cells #[.int .i64 g.2.1, .int .i64 g.2.2.1, .int .i64 g.2.2.2] 24)).heap.size := Nat.lt_of_lt_of_le hbB0 hb45.size
      have hbl : bl < (w4.alloc (.cells #[.int .i64 g.2.1, .int .i64 g.2.2.1, .int .i64 g.2.2.2] 24)).heap.size := Nat.lt_of_lt_of_le hbl0 hb45.size
      have t0 : (w4.alloc (.cells #[.int .i64 g.2.1, .int .i64 g.2.2.1, .int .i64 g.2.2.2] 24)).cell? ⟨w4.heap.size, 0, none⟩ = some (.int .i64 g.2.1) := V4.out.cell 0
      have t1 : (w4.alloc (.cells #[.int .i64 g.2.1, .int .i64 g.2.2.1, .int .i64 g.2.2.2] 24)).cell? ⟨w4.heap.size, 1, none⟩ = some (.int .i64 g.2.2.1) := V4.out.cell 1
      have t2 : (w4.alloc (.cells #[.int .i64 g.2.1, .int .i64 g.2.2.1, .int .i64 g.2.2.2] 24)).cell? ⟨w4.heap.size, 2, none⟩ = some (.int .i64 g.2.2.2) := V4.out.cell 2
      have hv4 : w4.heap.size < (w4.alloc (.cells #[.int .i64 g.2.1, .int .i64 g.2.2.1, .int .i64 g.2.2.2] 24)).heap.size := V4.out.lt
      clear g0 g1 g2 g3 hb4 hb45 u0' hbB0 hbl0 cH
      have g0 := e0
      have g1 := e1
      have g2 := e2
      have g3 := e3
      have HAl := Lib.hid hAl
      subst hAl
      clear e0 e1 e2 e3
      generalize hp0 : (l.headD zmod).1 = p0 at u0 HMX
      have HP0 := Lib.hid hp0
      clear hp0
      by_cases hxp : x.1 = p0
      · have hx1 : (x.1 == p0) = true := by rw [hxp]; exact beq_self_eq_true _
        have HMT := Lib.hid (show meetX l x = true by rw [HMX.out, decide_eq_true hxp]; rfl)
        have HXP := Lib.hid hxp
        clear hxp HMX HNo
        go_upto_region 5 with fail
        apply wp_region_facts (by kernel_rfl) [isv _, isv _, isv _, isv _, isv _, isv _, isv _, isv _, isv _, isv _, isv _, isv _, isv _, isv _, isv _, isv _, isv _, isv _, isv _, isv _, isv _, isv _, isv _, isv _] (w4.alloc (.cells #[.int .i64 g.2.1, .int .i64 g.2.2.1, .int .i64 g.2.2.2] 24)).heap.size (w4.alloc (.cells #[.int .i64 g.2.1, .int .i64 g.2.2.1, .int .i64 g.2.2.2] 24)) (Nat.le_refl _) (Below.refl _ _).drew (by kernel_rfl) (by kernel_rfl) (by kernel_rfl) (And.intro (isv_mono _) (And.intro (isv_mono _) (And.intro (isv_mono _) (And.intro (isv_mono _) (And.intro (isv_mono _) (And.intro (isv_mono _) (And.intro (isv_mono _) (And.intro (isv_mono _) (And.intro (isv_mono _) (And.intro (isv_mono _) (And.intro (isv_mono _) (And.intro (isv_mono _) (And.intro (isv_mono _) (And.intro (isv_mono _) (And.intro (isv_mono _) (And.intro (isv_mono _) (And.intro (isv_mono _) (And.intro (isv_mono _) (And.intro (isv_mono _) (And.intro (isv_mono _) (And.intro (isv_mono _) (And.intro (isv_mono _) (And.intro (isv_mono _) (And.intro (isv_mono _) trivial)))))))))))))))))))))))) ?steps (by rfl) ?fin
        case steps =>
          refine (And.intro ?o0 (And.intro ?o1 (And.intro ?o2 (And.intro ?o3 (And.intro ?o4 (And.intro ?o5 (And.intro ?o6 (And.intro ?o7 (And.intro ?o8 (And.intro ?o9 (And.intro ?o10 (And.intro ?o11 (And.intro ?o12 (And.intro ?o13 (And.intro ?o14 (And.intro ?o15 (And.intro ?o16 (And.intro ?o17 (And.intro ?o18 (And.intro ?o19 (And.intro ?o20 (And.intro ?o21 (And.intro ?o22 (And.intro ?o23 trivial))))))))))))))))))))))))
          case o0 =>
            intro AA W KK QQ hB hs hd hl hk
            have sl1 := hs 1 _ (by kernel_rfl) rfl
            clear hs hd hl
            go_simp
            exact hk _ _ rfl (Below.refl _ _)
          case o1 =>
            intro AA W KK QQ hB hs hd hl hk
            have sl5 := hs 5 _ (by kernel_rfl) rfl
            clear hs hd hl
            go_simp
            exact hk _ _ rfl (Below.refl _ _)
          case o2 =>
            intro AA W KK QQ hB hs hd hl hk
            obtain ⟨_, sl24, rfl⟩ := hd 0 24 (by kernel_rfl) rfl
            obtain ⟨_, sl25, rfl⟩ := hd 1 25 (by kernel_rfl) rfl
            clear hs hd hl
            go_simp
            exact hk _ _ rfl (Below.refl _ _)
          case o3 =>
            intro AA W KK QQ hB hs hd hl hk
            obtain ⟨_, sl26, rfl⟩ := hd 2 26 (by kernel_rfl) rfl
            clear hs hd hl
            go_simp
            exact hk _ _ rfl (Below.refl _ _)
          case o4 =>
            intro AA W KK QQ hB hs hd hl hk
            obtain ⟨_, sl27, rfl⟩ := hd 3 27 (by kernel_rfl) rfl
            clear hs hd hl
            have hx0 := hB.cell (p := ⟨b, off + k * 4, none⟩) hbB
            rw [g0] at hx0
            go_simp
            exact hk _ _ rfl (Below.refl _ _)
          case o5 =>
            intro AA W KK QQ hB hs hd hl hk
            have sl0 := hs 0 _ (by kernel_rfl) rfl
            clear hs hd hl
            go_simp
            exact hk _ _ rfl (Below.refl _ _)
          case o6 =>
            intro AA W KK QQ hB hs hd hl hk
            obtain ⟨_, sl29, rfl⟩ := hd 5 29 (by kernel_rfl) rfl
            clear hs hd hl
            go_simp
            exact hk _ _ rfl (Below.refl _ _)
          case o7 =>
            intro AA W KK QQ hB hs hd hl hk
            obtain ⟨_, sl30, rfl⟩ := hd 6 30 (by kernel_rfl) rfl
            clear hs hd hl
            go_simp
            exact hk _ _ rfl (Below.refl _ _)
          case o8 =>
            intro AA W KK QQ hB hs hd hl hk
            obtain ⟨_, sl31, rfl⟩ := hd 7 31 (by kernel_rfl) rfl
            clear hs hd hl
            have hx0 := hB.cell (p := ⟨bl, ol, none⟩) hbl
            rw [u0] at hx0
            go_simp
            exact hk _ _ rfl (Below.refl _ _)
          case o9 =>
            intro AA W KK QQ hB hs hd hl hk
            obtain ⟨_, sl28, rfl⟩ := hd 4 28 (by kernel_rfl) rfl
            obtain ⟨_, sl32, rfl⟩ := hd 8 32 (by kernel_rfl) rfl
            clear hs hd hl
            go_simp
            exact hk _ _ rfl (Below.refl _ _)
          case o10 =>
            intro AA W KK QQ hB hs hd hl hk
            obtain ⟨_, sl33, rfl⟩ := hd 9 33 (by kernel_rfl) rfl
            clear hs hd hl
            go_simp
            exact hk _ _ rfl (Below.refl _ _)
          case o11 =>
            intro AA W KK QQ hB hs hd hl hk
            have sl7 := hs 7 _ (by kernel_rfl) rfl
            obtain ⟨_, sl34, rfl⟩ := hd 10 34 (by kernel_rfl) rfl
            clear hs hd hl
            refine ⟨_, _, rfl, sl34, ?_⟩
            first
              | (change Oper.wp _ _ _ _ _ _; go_simp; exact hk _ _ rfl (Below.refl _ _))
              | exact rfl
          case o12 =>
            intro AA W KK QQ hB hs hd hl hk
            obtain ⟨_, sl34, rfl⟩ := hd 10 34 (by kernel_rfl) rfl
            obtain ⟨_, sl35, rfl⟩ := hd 11 35 (by kernel_rfl) rfl
            clear hs hd hl
            refine ⟨_, _, rfl, sl34, ?_⟩
            first
              | (change Oper.wp _ _ _ _ _ _; go_simp; exact hk _ _ rfl (Below.refl _ _))
              | exact rfl
          case o13 =>
            intro AA W KK QQ hB hs hd hl hk
            obtain ⟨_, sl34, rfl⟩ := hd 10 34 (by kernel_rfl) rfl
            obtain ⟨_, sl36, rfl⟩ := hd 12 36 (by kernel_rfl) rfl
            clear hs hd hl
            refine ⟨_, _, rfl, sl34, ?_⟩
            first
              | (change Oper.wp _ _ _ _ _ _; go_simp; exact hk _ _ rfl (Below.refl _ _))
              | exact rfl
          case o14 =>
            intro AA W KK QQ hB hs hd hl hk
            have sl6 := hs 6 _ (by kernel_rfl) rfl
            obtain ⟨_, sl37, rfl⟩ := hd 13 37 (by kernel_rfl) rfl
            clear hs hd hl
            have hx0 := hB.cell (p := ⟨w4.heap.size, 0, none⟩) hv4
            have hx1 := hB.cell (p := ⟨w4.heap.size, 1, none⟩) hv4
            have hx2 := hB.cell (p := ⟨w4.heap.size, 2, none⟩) hv4
            rw [t0] at hx0
            rw [t1] at hx1
            rw [t2] at hx2
            refine ⟨_, _, rfl, sl37, ?_⟩
            first
              | (change Oper.wp _ _ _ _ _ _; go_simp; exact hk _ _ rfl (Below.refl _ _))
              | exact rfl
          case o15 =>
            intro AA W KK QQ hB hs hd hl hk
            have sl1 := hs 1 _ (by kernel_rfl) rfl
            obtain ⟨_, sl37, rfl⟩ := hd 13 37 (by kernel_rfl) rfl
            clear hs hd hl
            refine ⟨_, _, rfl, sl37, ?_⟩
            first
              | (change Oper.wp _ _ _ _ _ _; go_simp; exact hk _ _ rfl (Below.refl _ _))
              | exact rfl
          case o16 =>
            intro AA W KK QQ hB hs hd hl hk
            have sl5 := hs 5 _ (by kernel_rfl) rfl
            obtain ⟨_, sl37, rfl⟩ := hd 13 37 (by kernel_rfl) rfl
            clear hs hd hl
            refine ⟨_, _, rfl, sl37, ?_⟩
            first
              | (change Oper.wp _ _ _ _ _ _; go_simp; exact hk _ _ rfl (Below.refl _ _))
              | exact rfl
          case o17 =>
            intro AA W KK QQ hB hs hd hl hk
            obtain ⟨_, sl37, rfl⟩ := hd 13 37 (by kernel_rfl) rfl
            obtain ⟨_, sl39, rfl⟩ := hd 15 39 (by kernel_rfl) rfl
            obtain ⟨_, sl40, rfl⟩ := hd 16 40 (by kernel_rfl) rfl
            clear hs hd hl
            refine ⟨_, _, rfl, sl37, ?_⟩
            first
              | (change Oper.wp _ _ _ _ _ _; go_simp; exact hk _ _ rfl (Below.refl _ _))
              | exact rfl
          case o18 =>
            intro AA W KK QQ hB hs hd hl hk
            obtain ⟨_, sl37, rfl⟩ := hd 13 37 (by kernel_rfl) rfl
            obtain ⟨_, sl41, rfl⟩ := hd 17 41 (by kernel_rfl) rfl
            clear hs hd hl
            refine ⟨_, _, rfl, sl37, ?_⟩
            first
              | (change Oper.wp _ _ _ _ _ _; go_simp; exact hk _ _ rfl (Below.refl _ _))
              | exact rfl
          case o19 =>
            intro AA W KK QQ hB hs hd hl hk
            obtain ⟨_, sl37, rfl⟩ := hd 13 37 (by kernel_rfl) rfl
            obtain ⟨_, sl42, rfl⟩ := hd 18 42 (by kernel_rfl) rfl
            clear hs hd hl
            have hx1 := hB.cell (p := ⟨b, off + k * 4 + 1, none⟩) hbB
            have hx2 := hB.cell (p := ⟨b, off + k * 4 + 2, none⟩) hbB
            have hx3 := hB.cell (p := ⟨b, off + k * 4 + 3, none⟩) hbB
            rw [g1] at hx1
            rw [g2] at hx2
            rw [g3] at hx3
            refine ⟨_, _, rfl, sl37, ?_⟩
            first
              | (change Oper.wp _ _ _ _ _ _; go_simp; exact hk _ _ rfl (Below.refl _ _))
              | exact rfl
          case o20 =>
            intro AA W KK QQ hB hs hd hl hk
            obtain ⟨_, sl37, rfl⟩ := hd 13 37 (by kernel_rfl) rfl
            obtain ⟨_, sl38, rfl⟩ := hd 14 38 (by kernel_rfl) rfl
            obtain ⟨_, sl43, rfl⟩ := hd 19 43 (by kernel_rfl) rfl
            clear hs hd hl
            refine ⟨_, _, rfl, sl37, ?_⟩
            exact rfl
          case o21 =>
            intro AA W KK QQ hB hs hd hl hk
            obtain ⟨_, sl37, rfl⟩ := hd 13 37 (by kernel_rfl) rfl
            obtain ⟨_, sl44, rfl⟩ := hd 20 44 (by kernel_rfl) rfl
            clear hs hd hl
            refine ⟨_, _, rfl, sl37, ?_⟩
            first
              | (change Oper.wp _ _ _ _ _ _; go_simp; exact hk _ _ rfl (Below.refl _ _))
              | exact rfl
          case o22 =>
            intro AA W KK QQ hB hs hd hl hk
            obtain ⟨_, sl34, rfl⟩ := hd 10 34 (by kernel_rfl) rfl
            obtain ⟨_, sl37, rfl⟩ := hd 13 37 (by kernel_rfl) rfl
            obtain ⟨_, sl45, rfl⟩ := hd 21 45 (by kernel_rfl) rfl
            clear hs hd hl
            refine ⟨_, _, rfl, sl34, ?_⟩
            first
              | (change Oper.wp _ _ _ _ _ _; go_simp; exact hk _ _ rfl (Below.refl _ _))
              | exact rfl
          case o23 =>
            intro AA W KK QQ hB hs hd hl hk
            obtain ⟨_, sl34, rfl⟩ := hd 10 34 (by kernel_rfl) rfl
            obtain ⟨_, sl46, rfl⟩ := hd 22 46 (by kernel_rfl) rfl
            clear hs hd hl
            go_simp
            exact hk _ _ rfl (Below.refl _ _)
        case fin =>
          intro w6 hB
          refine fin_isv 24 rfl ?_
          refine fin_isv 25 rfl ?_
          refine fin_isv 26 rfl ?_
          refine fin_isv 27 rfl ?_
          refine fin_isv 28 rfl ?_
          refine fin_isv 29 rfl ?_
          refine fin_isv 30 rfl ?_
          refine fin_isv 31 rfl ?_
          refine fin_isv 32 rfl ?_
          refine fin_isv 33 rfl ?_
          refine fin_isv 34 rfl ?_
          refine fin_isv 35 rfl ?_
          refine fin_isv 36 rfl ?_
          refine fin_isv 37 rfl ?_
          refine fin_isv 38 rfl ?_
          refine fin_isv 39 rfl ?_
          refine fin_isv 40 rfl ?_
          refine fin_isv 41 rfl ?_
          refine fin_isv 42 rfl ?_
          refine fin_isv 43 rfl ?_
          refine fin_isv 44 rfl ?_
          refine fin_isv 45 rfl ?_
          refine fin_isv 46 rfl ?_
          refine fin_isv 47 rfl ?_
          refine frame48_9d81f24a80 _ _ _ _ _ _ _ _ _ _ _ _ _ _ _ _ _ _ _ _ _ _ _ _ _ _ _ _ _ _ _ _ _ _ _ _ _ _ _ _ _ _ _ _ _ _ _ _ _ _ _ _ _ _ _ _ _ _ _ _ _ _ _ _ _ _ _ _ _ _ _ _ ?_
          have HB6 := Lib.hid (HB4.out.trans (hB.mono HB4.out.size))
          have HJ2 := Lib.hid (show ∀ y ∈ req.take (k + 1), meetX l y = true from fun y hy => by
            rw [HTk.out] at hy
            rcases List.mem_append.1 hy with h | h
            · exact HJ.out y h
            · rw [List.mem_singleton.1 h]; exact HMT.out)
          clear hB
          go_wp2
          go_roundw
          case rel => exact ⟨k + 1, by omega, by go_num, HJ2, HB6⟩
          case measure => simp [intOf]; omega
      · have hx1 : (x.1 == p0) = false := beq_eq_false_iff_ne.2 hxp
        cases hv with
        | none =>
          have HF := Lib.hid (HNo.out (by rw [HMX.out, decide_eq_false hxp]; rfl))
          clear hxp HMX HNo
          go_upto_region 5 with fail
          apply wp_region_facts (by kernel_rfl) [isv _, isv _, isv _, isv _, isv _, isv _, isv _, isv _, isv _, isv _, isv _, isv _, isv _, isv _, isv _, isv _, isv _, isv _, isv _, isv _, isv _, isv _, isv _, isv _] (w4.alloc (.cells #[.int .i64 g.2.1, .int .i64 g.2.2.1, .int .i64 g.2.2.2] 24)).heap.size (w4.alloc (.cells #[.int .i64 g.2.1, .int .i64 g.2.2.1, .int .i64 g.2.2.2] 24)) (Nat.le_refl _) (Below.refl _ _).drew (by kernel_rfl) (by kernel_rfl) (by kernel_rfl) (And.intro (isv_mono _) (And.intro (isv_mono _) (And.intro (isv_mono _) (And.intro (isv_mono _) (And.intro (isv_mono _) (And.intro (isv_mono _) (And.intro (isv_mono _) (And.intro (isv_mono _) (And.intro (isv_mono _) (And.intro (isv_mono _) (And.intro (isv_mono _) (And.intro (isv_mono _) (And.intro (isv_mono _) (And.intro (isv_mono _) (And.intro (isv_mono _) (And.intro (isv_mono _) (And.intro (isv_mono _) (And.intro (isv_mono _) (And.intro (isv_mono _) (And.intro (isv_mono _) (And.intro (isv_mono _) (And.intro (isv_mono _) (And.intro (isv_mono _) (And.intro (isv_mono _) trivial)))))))))))))))))))))))) ?steps (by rfl) ?fin
          case steps =>
            refine (And.intro ?o0 (And.intro ?o1 (And.intro ?o2 (And.intro ?o3 (And.intro ?o4 (And.intro ?o5 (And.intro ?o6 (And.intro ?o7 (And.intro ?o8 (And.intro ?o9 (And.intro ?o10 (And.intro ?o11 (And.intro ?o12 (And.intro ?o13 (And.intro ?o14 (And.intro ?o15 (And.intro ?o16 (And.intro ?o17 (And.intro ?o18 (And.intro ?o19 (And.intro ?o20 (And.intro ?o21 (And.intro ?o22 (And.intro ?o23 trivial))))))))))))))))))))))))
            case o0 =>
              intro AA W KK QQ hB hs hd hl hk
              have sl1 := hs 1 _ (by kernel_rfl) rfl
              clear hs hd hl
              go_simp
              exact hk _ _ rfl (Below.refl _ _)
            case o1 =>
              intro AA W KK QQ hB hs hd hl hk
              have sl5 := hs 5 _ (by kernel_rfl) rfl
              clear hs hd hl
              go_simp
              exact hk _ _ rfl (Below.refl _ _)
            case o2 =>
              intro AA W KK QQ hB hs hd hl hk
              obtain ⟨_, sl24, rfl⟩ := hd 0 24 (by kernel_rfl) rfl
              obtain ⟨_, sl25, rfl⟩ := hd 1 25 (by kernel_rfl) rfl
              clear hs hd hl
              go_simp
              exact hk _ _ rfl (Below.refl _ _)
            case o3 =>
              intro AA W KK QQ hB hs hd hl hk
              obtain ⟨_, sl26, rfl⟩ := hd 2 26 (by kernel_rfl) rfl
              clear hs hd hl
              go_simp
              exact hk _ _ rfl (Below.refl _ _)
            case o4 =>
              intro AA W KK QQ hB hs hd hl hk
              obtain ⟨_, sl27, rfl⟩ := hd 3 27 (by kernel_rfl) rfl
              clear hs hd hl
              have hx0 := hB.cell (p := ⟨b, off + k * 4, none⟩) hbB
              rw [g0] at hx0
              go_simp
              exact hk _ _ rfl (Below.refl _ _)
            case o5 =>
              intro AA W KK QQ hB hs hd hl hk
              have sl0 := hs 0 _ (by kernel_rfl) rfl
              clear hs hd hl
              go_simp
              exact hk _ _ rfl (Below.refl _ _)
            case o6 =>
              intro AA W KK QQ hB hs hd hl hk
              obtain ⟨_, sl29, rfl⟩ := hd 5 29 (by kernel_rfl) rfl
              clear hs hd hl
              go_simp
              exact hk _ _ rfl (Below.refl _ _)
            case o7 =>
              intro AA W KK QQ hB hs hd hl hk
              obtain ⟨_, sl30, rfl⟩ := hd 6 30 (by kernel_rfl) rfl
              clear hs hd hl
              go_simp
              exact hk _ _ rfl (Below.refl _ _)
            case o8 =>
              intro AA W KK QQ hB hs hd hl hk
              obtain ⟨_, sl31, rfl⟩ := hd 7 31 (by kernel_rfl) rfl
              clear hs hd hl
              have hx0 := hB.cell (p := ⟨bl, ol, none⟩) hbl
              rw [u0] at hx0
              go_simp
              exact hk _ _ rfl (Below.refl _ _)
            case o9 =>
              intro AA W KK QQ hB hs hd hl hk
              obtain ⟨_, sl28, rfl⟩ := hd 4 28 (by kernel_rfl) rfl
              obtain ⟨_, sl32, rfl⟩ := hd 8 32 (by kernel_rfl) rfl
              clear hs hd hl
              go_simp
              exact hk _ _ rfl (Below.refl _ _)
            case o10 =>
              intro AA W KK QQ hB hs hd hl hk
              obtain ⟨_, sl33, rfl⟩ := hd 9 33 (by kernel_rfl) rfl
              clear hs hd hl
              go_simp
              exact hk _ _ rfl (Below.refl _ _)
            case o11 =>
              intro AA W KK QQ hB hs hd hl hk
              have sl7 := hs 7 _ (by kernel_rfl) rfl
              obtain ⟨_, sl34, rfl⟩ := hd 10 34 (by kernel_rfl) rfl
              clear hs hd hl
              refine ⟨_, _, rfl, sl34, ?_⟩
              first
                | (change Oper.wp _ _ _ _ _ _; go_simp; exact hk _ _ rfl (Below.refl _ _))
                | exact rfl
            case o12 =>
              intro AA W KK QQ hB hs hd hl hk
              obtain ⟨_, sl34, rfl⟩ := hd 10 34 (by kernel_rfl) rfl
              obtain ⟨_, sl35, rfl⟩ := hd 11 35 (by kernel_rfl) rfl
              clear hs hd hl
              refine ⟨_, _, rfl, sl34, ?_⟩
              first
                | (change Oper.wp _ _ _ _ _ _; go_simp; exact hk _ _ rfl (Below.refl _ _))
                | exact rfl
            case o13 =>
              intro AA W KK QQ hB hs hd hl hk
              obtain ⟨_, sl34, rfl⟩ := hd 10 34 (by kernel_rfl) rfl
              obtain ⟨_, sl36, rfl⟩ := hd 12 36 (by kernel_rfl) rfl
              clear hs hd hl
              refine ⟨_, _, rfl, sl34, ?_⟩
              first
                | (change Oper.wp _ _ _ _ _ _; go_simp; exact hk _ _ rfl (Below.refl _ _))
                | exact rfl
            case o14 =>
              intro AA W KK QQ hB hs hd hl hk
              have sl6 := hs 6 _ (by kernel_rfl) rfl
              obtain ⟨_, sl37, rfl⟩ := hd 13 37 (by kernel_rfl) rfl
              clear hs hd hl
              have hx0 := hB.cell (p := ⟨w4.heap.size, 0, none⟩) hv4
              have hx1 := hB.cell (p := ⟨w4.heap.size, 1, none⟩) hv4
              have hx2 := hB.cell (p := ⟨w4.heap.size, 2, none⟩) hv4
              rw [t0] at hx0
              rw [t1] at hx1
              rw [t2] at hx2
              refine ⟨_, _, rfl, sl37, ?_⟩
              first
                | (change Oper.wp _ _ _ _ _ _; go_simp; exact hk _ _ rfl (Below.refl _ _))
                | exact rfl
            case o15 =>
              intro AA W KK QQ hB hs hd hl hk
              have sl1 := hs 1 _ (by kernel_rfl) rfl
              obtain ⟨_, sl37, rfl⟩ := hd 13 37 (by kernel_rfl) rfl
              clear hs hd hl
              refine ⟨_, _, rfl, sl37, ?_⟩
              first
                | (change Oper.wp _ _ _ _ _ _; go_simp; exact hk _ _ rfl (Below.refl _ _))
                | exact rfl
            case o16 =>
              intro AA W KK QQ hB hs hd hl hk
              have sl5 := hs 5 _ (by kernel_rfl) rfl
              obtain ⟨_, sl37, rfl⟩ := hd 13 37 (by kernel_rfl) rfl
              clear hs hd hl
              refine ⟨_, _, rfl, sl37, ?_⟩
              first
                | (change Oper.wp _ _ _ _ _ _; go_simp; exact hk _ _ rfl (Below.refl _ _))
                | exact rfl
            case o17 =>
              intro AA W KK QQ hB hs hd hl hk
              obtain ⟨_, sl37, rfl⟩ := hd 13 37 (by kernel_rfl) rfl
              obtain ⟨_, sl39, rfl⟩ := hd 15 39 (by kernel_rfl) rfl
              obtain ⟨_, sl40, rfl⟩ := hd 16 40 (by kernel_rfl) rfl
              clear hs hd hl
              refine ⟨_, _, rfl, sl37, ?_⟩
              first
                | (change Oper.wp _ _ _ _ _ _; go_simp; exact hk _ _ rfl (Below.refl _ _))
                | exact rfl
            case o18 =>
              intro AA W KK QQ hB hs hd hl hk
              obtain ⟨_, sl37, rfl⟩ := hd 13 37 (by kernel_rfl) rfl
              obtain ⟨_, sl41, rfl⟩ := hd 17 41 (by kernel_rfl) rfl
              clear hs hd hl
              refine ⟨_, _, rfl, sl37, ?_⟩
              first
                | (change Oper.wp _ _ _ _ _ _; go_simp; exact hk _ _ rfl (Below.refl _ _))
                | exact rfl
            case o19 =>
              intro AA W KK QQ hB hs hd hl hk
              obtain ⟨_, sl37, rfl⟩ := hd 13 37 (by kernel_rfl) rfl
              obtain ⟨_, sl42, rfl⟩ := hd 18 42 (by kernel_rfl) rfl
              clear hs hd hl
              have hx1 := hB.cell (p := ⟨b, off + k * 4 + 1, none⟩) hbB
              have hx2 := hB.cell (p := ⟨b, off + k * 4 + 2, none⟩) hbB
              have hx3 := hB.cell (p := ⟨b, off + k * 4 + 3, none⟩) hbB
              rw [g1] at hx1
              rw [g2] at hx2
              rw [g3] at hx3
              refine ⟨_, _, rfl, sl37, ?_⟩
              first
                | (change Oper.wp _ _ _ _ _ _; go_simp; exact hk _ _ rfl (Below.refl _ _))
                | exact rfl
            case o20 =>
              intro AA W KK QQ hB hs hd hl hk
              obtain ⟨_, sl37, rfl⟩ := hd 13 37 (by kernel_rfl) rfl
              obtain ⟨_, sl38, rfl⟩ := hd 14 38 (by kernel_rfl) rfl
              obtain ⟨_, sl43, rfl⟩ := hd 19 43 (by kernel_rfl) rfl
              clear hs hd hl
              refine ⟨_, _, rfl, sl37, ?_⟩
              exact rfl
            case o21 =>
              intro AA W KK QQ hB hs hd hl hk
              obtain ⟨_, sl37, rfl⟩ := hd 13 37 (by kernel_rfl) rfl
              obtain ⟨_, sl44, rfl⟩ := hd 20 44 (by kernel_rfl) rfl
              clear hs hd hl
              refine ⟨_, _, rfl, sl37, ?_⟩
              first
                | (change Oper.wp _ _ _ _ _ _; go_simp; exact hk _ _ rfl (Below.refl _ _))
                | exact rfl
            case o22 =>
              intro AA W KK QQ hB hs hd hl hk
              obtain ⟨_, sl34, rfl⟩ := hd 10 34 (by kernel_rfl) rfl
              obtain ⟨_, sl37, rfl⟩ := hd 13 37 (by kernel_rfl) rfl
              obtain ⟨_, sl45, rfl⟩ := hd 21 45 (by kernel_rfl) rfl
              clear hs hd hl
              refine ⟨_, _, rfl, sl34, ?_⟩
              first
                | (change Oper.wp _ _ _ _ _ _; go_simp; exact hk _ _ rfl (Below.refl _ _))
                | exact rfl
            case o23 =>
              intro AA W KK QQ hB hs hd hl hk
              obtain ⟨_, sl34, rfl⟩ := hd 10 34 (by kernel_rfl) rfl
              obtain ⟨_, sl46, rfl⟩ := hd 22 46 (by kernel_rfl) rfl
              clear hs hd hl
              go_simp
              exact hk _ _ rfl (Below.refl _ _)
          case fin =>
            intro w6 hB
            refine fin_isv 24 rfl ?_
            refine fin_isv 25 rfl ?_
            refine fin_isv 26 rfl ?_
            refine fin_isv 27 rfl ?_
            refine fin_isv 28 rfl ?_
            refine fin_isv 29 rfl ?_
            refine fin_isv 30 rfl ?_
            refine fin_isv 31 rfl ?_
            refine fin_isv 32 rfl ?_
            refine fin_isv 33 rfl ?_
            refine fin_isv 34 rfl ?_
            refine fin_isv 35 rfl ?_
            refine fin_isv 36 rfl ?_
            refine fin_isv 37 rfl ?_
            refine fin_isv 38 rfl ?_
            refine fin_isv 39 rfl ?_
            refine fin_isv 40 rfl ?_
            refine fin_isv 41 rfl ?_
            refine fin_isv 42 rfl ?_
            refine fin_isv 43 rfl ?_
            refine fin_isv 44 rfl ?_
            refine fin_isv 45 rfl ?_
            refine fin_isv 46 rfl ?_
            refine fin_isv 47 rfl ?_
            refine frame48_9d81f24a80 _ _ _ _ _ _ _ _ _ _ _ _ _ _ _ _ _ _ _ _ _ _ _ _ _ _ _ _ _ _ _ _ _ _ _ _ _ _ _ _ _ _ _ _ _ _ _ _ _ _ _ _ _ _ _ _ _ _ _ _ _ _ _ _ _ _ _ _ _ _ _ _ ?_
            have HB6 := Lib.hid (HB4.out.trans (hB.mono HB4.out.size))
            clear hB
            go_wp2
            go_ret
            exact ⟨by rw [HF.out]; rfl, HB6.out⟩
        | some u =>
          obtain rfl : g = u := HGG.out
          have HM2 := Lib.hid (show meetX l x = decide (0 ≤ vcmpV g.2 x.2) by rw [HMX.out, decide_eq_false hxp]; rfl)
          have hdv : vcmp g.2.1 g.2.2.1 g.2.2.2 x.2.1 x.2.2.1 x.2.2.2 = vcmpV g.2 x.2 := rfl
          obtain ⟨d, hd⟩ : ∃ d, d = vcmpV g.2 x.2 := ⟨_, rfl⟩
          rw [← hd] at hdv
          have HD := Lib.hid hd
          clear hxp HMX hd
          go_upto_region 5 with fail
          apply wp_region_facts (by kernel_rfl) [isv _, isv _, isv _, isv _, isv _, isv _, isv _, isv _, isv _, isv _, isv _, isv _, isv _, isv _, isv _, isv _, isv _, isv _, isv _, isv _, isv _, isv _, isv _, isv _] (w4.alloc (.cells #[.int .i64 g.2.1, .int .i64 g.2.2.1, .int .i64 g.2.2.2] 24)).heap.size (w4.alloc (.cells #[.int .i64 g.2.1, .int .i64 g.2.2.1, .int .i64 g.2.2.2] 24)) (Nat.le_refl _) (Below.refl _ _).drew (by kernel_rfl) (by kernel_rfl) (by kernel_rfl) (And.intro (isv_mono _) (And.intro (isv_mono _) (And.intro (isv_mono _) (And.intro (isv_mono _) (And.intro (isv_mono _) (And.intro (isv_mono _) (And.intro (isv_mono _) (And.intro (isv_mono _) (And.intro (isv_mono _) (And.intro (isv_mono _) (And.intro (isv_mono _) (And.intro (isv_mono _) (And.intro (isv_mono _) (And.intro (isv_mono _) (And.intro (isv_mono _) (And.intro (isv_mono _) (And.intro (isv_mono _) (And.intro (isv_mono _) (And.intro (isv_mono _) (And.intro (isv_mono _) (And.intro (isv_mono _) (And.intro (isv_mono _) (And.intro (isv_mono _) (And.intro (isv_mono _) trivial)))))))))))))))))))))))) ?steps (by rfl) ?fin
          case steps =>
            refine (And.intro ?o0 (And.intro ?o1 (And.intro ?o2 (And.intro ?o3 (And.intro ?o4 (And.intro ?o5 (And.intro ?o6 (And.intro ?o7 (And.intro ?o8 (And.intro ?o9 (And.intro ?o10 (And.intro ?o11 (And.intro ?o12 (And.intro ?o13 (And.intro ?o14 (And.intro ?o15 (And.intro ?o16 (And.intro ?o17 (And.intro ?o18 (And.intro ?o19 (And.intro ?o20 (And.intro ?o21 (And.intro ?o22 (And.intro ?o23 trivial))))))))))))))))))))))))
            case o0 =>
              intro AA W KK QQ hB hs hd hl hk
              have sl1 := hs 1 _ (by kernel_rfl) rfl
              clear hs hd hl
              go_simp
              exact hk _ _ rfl (Below.refl _ _)
            case o1 =>
              intro AA W KK QQ hB hs hd hl hk
              have sl5 := hs 5 _ (by kernel_rfl) rfl
              clear hs hd hl
              go_simp
              exact hk _ _ rfl (Below.refl _ _)
            case o2 =>
              intro AA W KK QQ hB hs hd hl hk
              obtain ⟨_, sl24, rfl⟩ := hd 0 24 (by kernel_rfl) rfl
              obtain ⟨_, sl25, rfl⟩ := hd 1 25 (by kernel_rfl) rfl
              clear hs hd hl
              go_simp
              exact hk _ _ rfl (Below.refl _ _)
            case o3 =>
              intro AA W KK QQ hB hs hd hl hk
              obtain ⟨_, sl26, rfl⟩ := hd 2 26 (by kernel_rfl) rfl
              clear hs hd hl
              go_simp
              exact hk _ _ rfl (Below.refl _ _)
            case o4 =>
              intro AA W KK QQ hB hs hd hl hk
              obtain ⟨_, sl27, rfl⟩ := hd 3 27 (by kernel_rfl) rfl
              clear hs hd hl
              have hx0 := hB.cell (p := ⟨b, off + k * 4, none⟩) hbB
              rw [g0] at hx0
              go_simp
              exact hk _ _ rfl (Below.refl _ _)
            case o5 =>
              intro AA W KK QQ hB hs hd hl hk
              have sl0 := hs 0 _ (by kernel_rfl) rfl
              clear hs hd hl
              go_simp
              exact hk _ _ rfl (Below.refl _ _)
            case o6 =>
              intro AA W KK QQ hB hs hd hl hk
              obtain ⟨_, sl29, rfl⟩ := hd 5 29 (by kernel_rfl) rfl
              clear hs hd hl
              go_simp
              exact hk _ _ rfl (Below.refl _ _)
            case o7 =>
              intro AA W KK QQ hB hs hd hl hk
              obtain ⟨_, sl30, rfl⟩ := hd 6 30 (by kernel_rfl) rfl
              clear hs hd hl
              go_simp
              exact hk _ _ rfl (Below.refl _ _)
            case o8 =>
              intro AA W KK QQ hB hs hd hl hk
              obtain ⟨_, sl31, rfl⟩ := hd 7 31 (by kernel_rfl) rfl
              clear hs hd hl
              have hx0 := hB.cell (p := ⟨bl, ol, none⟩) hbl
              rw [u0] at hx0
              go_simp
              exact hk _ _ rfl (Below.refl _ _)
            case o9 =>
              intro AA W KK QQ hB hs hd hl hk
              obtain ⟨_, sl28, rfl⟩ := hd 4 28 (by kernel_rfl) rfl
              obtain ⟨_, sl32, rfl⟩ := hd 8 32 (by kernel_rfl) rfl
              clear hs hd hl
              go_simp
              exact hk _ _ rfl (Below.refl _ _)
            case o10 =>
              intro AA W KK QQ hB hs hd hl hk
              obtain ⟨_, sl33, rfl⟩ := hd 9 33 (by kernel_rfl) rfl
              clear hs hd hl
              go_simp
              exact hk _ _ rfl (Below.refl _ _)
            case o11 =>
              intro AA W KK QQ hB hs hd hl hk
              have sl7 := hs 7 _ (by kernel_rfl) rfl
              obtain ⟨_, sl34, rfl⟩ := hd 10 34 (by kernel_rfl) rfl
              clear hs hd hl
              refine ⟨_, _, rfl, sl34, ?_⟩
              first
                | (change Oper.wp _ _ _ _ _ _; go_simp; exact hk _ _ rfl (Below.refl _ _))
                | exact rfl
            case o12 =>
              intro AA W KK QQ hB hs hd hl hk
              obtain ⟨_, sl34, rfl⟩ := hd 10 34 (by kernel_rfl) rfl
              obtain ⟨_, sl35, rfl⟩ := hd 11 35 (by kernel_rfl) rfl
              clear hs hd hl
              refine ⟨_, _, rfl, sl34, ?_⟩
              first
                | (change Oper.wp _ _ _ _ _ _; go_simp; exact hk _ _ rfl (Below.refl _ _))
                | exact rfl
            case o13 =>
              intro AA W KK QQ hB hs hd hl hk
              obtain ⟨_, sl34, rfl⟩ := hd 10 34 (by kernel_rfl) rfl
              obtain ⟨_, sl36, rfl⟩ := hd 12 36 (by kernel_rfl) rfl
              clear hs hd hl
              refine ⟨_, _, rfl, sl34, ?_⟩
              first
                | (change Oper.wp _ _ _ _ _ _; go_simp; exact hk _ _ rfl (Below.refl _ _))
                | exact rfl
            case o14 =>
              intro AA W KK QQ hB hs hd hl hk
              have sl6 := hs 6 _ (by kernel_rfl) rfl
              obtain ⟨_, sl37, rfl⟩ := hd 13 37 (by kernel_rfl) rfl
              clear hs hd hl
              have hx0 := hB.cell (p := ⟨w4.heap.size, 0, none⟩) hv4
              have hx1 := hB.cell (p := ⟨w4.heap.size, 1, none⟩) hv4
              have hx2 := hB.cell (p := ⟨w4.heap.size, 2, none⟩) hv4
              rw [t0] at hx0
              rw [t1] at hx1
              rw [t2] at hx2
              refine ⟨_, _, rfl, sl37, ?_⟩
              first
                | (change Oper.wp _ _ _ _ _ _; go_simp; exact hk _ _ rfl (Below.refl _ _))
                | exact rfl
            case o15 =>
              intro AA W KK QQ hB hs hd hl hk
              have sl1 := hs 1 _ (by kernel_rfl) rfl
              obtain ⟨_, sl37, rfl⟩ := hd 13 37 (by kernel_rfl) rfl
              clear hs hd hl
              refine ⟨_, _, rfl, sl37, ?_⟩
              first
                | (change Oper.wp _ _ _ _ _ _; go_simp; exact hk _ _ rfl (Below.refl _ _))
                | exact rfl
            case o16 =>
              intro AA W KK QQ hB hs hd hl hk
              have sl5 := hs 5 _ (by kernel_rfl) rfl
              obtain ⟨_, sl37, rfl⟩ := hd 13 37 (by kernel_rfl) rfl
              clear hs hd hl
              refine ⟨_, _, rfl, sl37, ?_⟩
              first
                | (change Oper.wp _ _ _ _ _ _; go_simp; exact hk _ _ rfl (Below.refl _ _))
                | exact rfl
            case o17 =>
              intro AA W KK QQ hB hs hd hl hk
              obtain ⟨_, sl37, rfl⟩ := hd 13 37 (by kernel_rfl) rfl
              obtain ⟨_, sl39, rfl⟩ := hd 15 39 (by kernel_rfl) rfl
              obtain ⟨_, sl40, rfl⟩ := hd 16 40 (by kernel_rfl) rfl
              clear hs hd hl
              refine ⟨_, _, rfl, sl37, ?_⟩
              first
                | (change Oper.wp _ _ _ _ _ _; go_simp; exact hk _ _ rfl (Below.refl _ _))
                | exact rfl
            case o18 =>
              intro AA W KK QQ hB hs hd hl hk
              obtain ⟨_, sl37, rfl⟩ := hd 13 37 (by kernel_rfl) rfl
              obtain ⟨_, sl41, rfl⟩ := hd 17 41 (by kernel_rfl) rfl
              clear hs hd hl
              refine ⟨_, _, rfl, sl37, ?_⟩
              first
                | (change Oper.wp _ _ _ _ _ _; go_simp; exact hk _ _ rfl (Below.refl _ _))
                | exact rfl
            case o19 =>
              intro AA W KK QQ hB hs hd hl hk
              obtain ⟨_, sl37, rfl⟩ := hd 13 37 (by kernel_rfl) rfl
              obtain ⟨_, sl42, rfl⟩ := hd 18 42 (by kernel_rfl) rfl
              clear hs hd hl
              have hx1 := hB.cell (p := ⟨b, off + k * 4 + 1, none⟩) hbB
              have hx2 := hB.cell (p := ⟨b, off + k * 4 + 2, none⟩) hbB
              have hx3 := hB.cell (p := ⟨b, off + k * 4 + 3, none⟩) hbB
              rw [g1] at hx1
              rw [g2] at hx2
              rw [g3] at hx3
              refine ⟨_, _, rfl, sl37, ?_⟩
              first
                | (change Oper.wp _ _ _ _ _ _; go_simp; exact hk _ _ rfl (Below.refl _ _))
                | exact rfl
            case o20 =>
              intro AA W KK QQ hB hs hd hl hk
              obtain ⟨_, sl37, rfl⟩ := hd 13 37 (by kernel_rfl) rfl
              obtain ⟨_, sl38, rfl⟩ := hd 14 38 (by kernel_rfl) rfl
              obtain ⟨_, sl43, rfl⟩ := hd 19 43 (by kernel_rfl) rfl
              clear hs hd hl
              refine ⟨_, _, rfl, sl37, ?_⟩
              change Oper.wp _ _ _ _ _ _
              go_simp
              refine (refCompare_any _ _ _ _ _ _ W).mono ?_
              rintro e W2 ⟨rfl, hb2⟩
              exact hk _ _ rfl hb2
            case o21 =>
              intro AA W KK QQ hB hs hd hl hk
              obtain ⟨_, sl37, rfl⟩ := hd 13 37 (by kernel_rfl) rfl
              obtain ⟨_, sl44, rfl⟩ := hd 20 44 (by kernel_rfl) rfl
              clear hs hd hl
              refine ⟨_, _, rfl, sl37, ?_⟩
              first
                | (change Oper.wp _ _ _ _ _ _; go_simp; exact hk _ _ rfl (Below.refl _ _))
                | exact rfl
            case o22 =>
              intro AA W KK QQ hB hs hd hl hk
              obtain ⟨_, sl34, rfl⟩ := hd 10 34 (by kernel_rfl) rfl
              obtain ⟨_, sl37, rfl⟩ := hd 13 37 (by kernel_rfl) rfl
              obtain ⟨_, sl45, rfl⟩ := hd 21 45 (by kernel_rfl) rfl
              clear hs hd hl
              refine ⟨_, _, rfl, sl34, ?_⟩
              first
                | (change Oper.wp _ _ _ _ _ _; go_simp; exact hk _ _ rfl (Below.refl _ _))
                | exact rfl
            case o23 =>
              intro AA W KK QQ hB hs hd hl hk
              obtain ⟨_, sl34, rfl⟩ := hd 10 34 (by kernel_rfl) rfl
              obtain ⟨_, sl46, rfl⟩ := hd 22 46 (by kernel_rfl) rfl
              clear hs hd hl
              go_simp
              exact hk _ _ rfl (Below.refl _ _)
          case fin =>
            intro w6 hB
            refine fin_isv 24 rfl ?_
            refine fin_isv 25 rfl ?_
            refine fin_isv 26 rfl ?_
            refine fin_isv 27 rfl ?_
            refine fin_isv 28 rfl ?_
            refine fin_isv 29 rfl ?_
            refine fin_isv 30 rfl ?_
            refine fin_isv 31 rfl ?_
            refine fin_isv 32 rfl ?_
            refine fin_isv 33 rfl ?_
            refine fin_isv 34 rfl ?_
            refine fin_isv 35 rfl ?_
            refine fin_isv 36 rfl ?_
            refine fin_isv 37 rfl ?_
            refine fin_isv 38 rfl ?_
            refine fin_isv 39 rfl ?_
            refine fin_isv 40 rfl ?_
            refine fin_isv 41 rfl ?_
            refine fin_isv 42 rfl ?_
            refine fin_isv 43 rfl ?_
            refine fin_isv 44 rfl ?_
            refine fin_isv 45 rfl ?_
            refine fin_isv 46 rfl ?_
            refine fin_isv 47 rfl ?_
            refine frame48_9d81f24a80 _ _ _ _ _ _ _ _ _ _ _ _ _ _ _ _ _ _ _ _ _ _ _ _ _ _ _ _ _ _ _ _ _ _ _ _ _ _ _ _ _ _ _ _ _ _ _ _ _ _ _ _ _ _ _ _ _ _ _ _ _ _ _ _ _ _ _ _ _ _ _ _ ?_
            by_cases hd0 : d < 0
            · have HF := Lib.hid (HNo.out (by rw [HM2.out, ← HD.out]; exact decide_eq_false (by omega)))
              have hd1 : decide (d < 0) = true := decide_eq_true hd0
              have HB6 := Lib.hid (HB4.out.trans (hB.mono HB4.out.size))
              clear hB
              go_wp2
              go_ret
              exact ⟨by rw [HF.out]; rfl, HB6.out⟩
            · have HMT := Lib.hid (show meetX l x = true by rw [HM2.out, ← HD.out]; exact decide_eq_true (by omega))
              have HB6 := Lib.hid (HB4.out.trans (hB.mono HB4.out.size))
              have HJ2 := Lib.hid (show ∀ y ∈ req.take (k + 1), meetX l y = true from fun y hy => by
                rw [HTk.out] at hy
                rcases List.mem_append.1 hy with h | h
                · exact HJ.out y h
                · rw [List.mem_singleton.1 h]; exact HMT.out)
              clear hB
              go_wp2
              go_roundw
              case rel => exact ⟨k + 1, by omega, by go_num, HJ2, HB6⟩
              case measure => simp [intOf]; omega
    · obtain rfl : k = req.length := by omega
      have HF := Lib.hid (show r = true from by rw [HE.out]; exact List.all_eq_true.2 (fun y hy => HJ.out y (by rw [List.take_length]; exact hy)))
      have HB6 := HB
      clear HJ
      go_wp2
      go_ret
      exact ⟨by rw [HF.out]; rfl, HB6.out⟩
end Go.Proofs.YtfiilbdkhelhgaaDoor
