/- Walk: whether a module is required (law46.asked). -/
import Derived.Test.YtfiilbdkhelhgaaDoorWL3
import Derived.Test.YtfiilbdkhelhgaaDoorPL8
import Derived.Test.YtfiilbdkhelhgaaDoorFct
namespace Go.Proofs.YtfiilbdkhelhgaaDoor
open Go.RowKit Go.Sort

set_option maxRecDepth 100000 in
theorem frame25_18_19_20_21_22_23_24 {Q : Exit → Act → World → Prop} {W : World} {fs : List Fact} (t0 t1 t2 t3 t4 t5 t6 t7 t8 t9 t10 t11 t12 t13 t14 t15 t16 t17 t18 t19 t20 t21 t22 t23 t24 v0 v1 v2 v3 v4 v5 v6 : Value) (h : Q .normal (Act.mk #[t0, t1, t2, t3, t4, t5, t6, t7, t8, t9, t10, t11, t12, t13, t14, t15, t16, t17, v0, v1, v2, v3, v4, v5, v6] []) W) : FinAll W (fun A => Q .normal A W) [] fs (Act.put (Act.put (Act.put (Act.put (Act.put (Act.put (Act.put (Act.mk #[t0, t1, t2, t3, t4, t5, t6, t7, t8, t9, t10, t11, t12, t13, t14, t15, t16, t17, t18, t19, t20, t21, t22, t23, t24] []) (some 18) v0) (some 19) v1) (some 20) v2) (some 21) v3) (some 22) v4) (some 23) v5) (some 24) v6) :=
  fin_end (by kernel_rfl) h
set_option maxRecDepth 100000 in
set_option maxHeartbeats 4000000 in
theorem asked_any (A : Option Addr) (c : Nat) (Y : List ManW) (y0 : ManW) (m : Mod) (w : World) (hY : RegOk w w.heap.size A Y) (h0 : ManOk w w.heap.size y0) :
    Calls Tryd.prog 12 #[.slice A Y.length c, .agg #[.string ⟨y0.1.1.toArray⟩, .int .i64 y0.1.2.1, .int .i64 y0.1.2.2.1, .int .i64 y0.1.2.2.2, .slice y0.2.1 y0.2.2.2.length y0.2.2.1], .agg #[.string ⟨m.1.toArray⟩, .int .i64 m.2.1, .int .i64 m.2.2.1, .int .i64 m.2.2.2]] w fun e w' => e = .returned (.bool (askedP (regW Y) y0.2.2.2 m)) ∧ Below w.heap.size w w' := by
  obtain ⟨rm, A0, c0, l0⟩ := y0
  simp only
  have HY := Lib.hid hY
  have H0 := Lib.hid h0
  have HB0 := Lib.hid (show Below w.heap.size w ((w.alloc (.cells (manA rm A0 l0.length c0) 29)).alloc (.cells (modA m) 26)) from ((Below.refl _ _).alloc (Nat.le_refl _) _).alloc (by simp) _)
  have Q0 := Lib.hid ((Blk.new w 29 (manA rm A0 l0.length c0)).keep ((Below.refl _ _).alloc (Nat.le_refl _) (.cells (modA m) 26)))
  have r0 := Blk.new (w.alloc (.cells (manA rm A0 l0.length c0) 29)) 26 (modA m)
  rw [World.size_alloc] at r0
  have R0 := Lib.hid r0
  have cH := Lib.hid (fun W (hW : Below w.heap.size w W) => Has_any A0 c0 l0 m W ((h0.1.below hW).more hW.size) (by have := h0.2.1; simp only at this; omega))
  unfold manA modA at HB0 Q0 R0
  obtain ⟨r, hres⟩ : ∃ r, r = askedP (regW Y) l0 m := ⟨_, rfl⟩
  rw [← hres]
  have HE := Lib.hid hres
  have HT := Lib.hid (fun (h : m ∈ l0) => show r = true from by rw [hres]; unfold askedP; rw [decide_eq_true h]; rfl)
  have HYl : Y.length ≤ 100 := hY.2.2
  clear hY h0 r0 hres
  obtain ⟨y0, y1, y2, y3, y4⟩ := manC (m := rm) (A := A0) (n := l0.length) (c := c0) Q0.out
  obtain ⟨v0, v1, v2, v3⟩ := modC (m := m) R0.out
  go_enter Tryd.func12, Tryd.ntmps12
  go_wp2_with fail
  refine (cH.out _ HB0.out).mono ?_
  rintro e w1 ⟨rfl, hb1⟩
  have HB1 := Lib.hid (HB0.out.trans (hb1.mono HB0.out.size))
  have R1 := Lib.hid (R0.out.keep hb1)
  clear hb1 y0 y1 y2 y3 y4 v0 v1 v2 v3 cH
  by_cases hm : m ∈ l0
  · rw [decide_eq_true hm]
    have HF := Lib.hid (HT.out hm)
    clear hm
    go_wp2
    go_ret
    exact ⟨by rw [HF.out]; rfl, HB1.out⟩
  · rw [decide_eq_false hm]
    have HM := Lib.hid hm
    clear hm HT
    go_wp2
    go_loopw [7] (fun i wr => ∃ k : Nat, k ≤ Y.length ∧ i = .int .i64 (k : Nat) ∧ Hid (∀ x ∈ Y.take k, m ∉ x.2.2.2) ∧ Hid (Below w1.heap.size w1 wr)) (fun i _ => Y.length - (intOf i).toNat)
    case atStart => exact ⟨0, Nat.zero_le _, rfl, Lib.hid (by simp), Lib.hid (Below.refl _ _)⟩
    case round =>
      obtain ⟨wo, hwo⟩ : ∃ wo, wo = wr := ⟨_, rfl⟩
      subst hwo
      obtain ⟨k, hk, rfl, HJ, HB⟩ := hrel
      have HBo := Lib.hid (HB1.out.trans (HB.out.mono HB1.out.size))
      have Ro := Lib.hid (R1.out.keep HB.out)
      by_cases hlt : k < Y.length
      · have hlt' : (k : Int) < (Y.length : Int) := by omega
        obtain ⟨b, off, hA1, hbB, _, _, _, _, g4⟩ := (HY.out.step HBo.out).1.man hlt
        have hy := (HY.out.step HBo.out).2.1 _ (List.getElem_mem hlt)
        have HTk := Lib.hid (List.take_succ_eq_append_getElem hlt)
        have HIn := Lib.hid (List.getElem_mem hlt)
        generalize Y[k] = y at g4 hy HTk HIn
        obtain ⟨mm, A3, c3, l3⟩ := y
        simp only at g4
        have cHk0 := fun W (hW : Below wo.heap.size wo W) => Has_any A3 c3 l3 m W ((hy.1.below hW).more hW.size) (by have := hy.2.1; simp only at this; omega)
        obtain ⟨v0, v1, v2, v3⟩ := modC (m := m) Ro.out
        have hmw : w.heap.size + 1 < wo.heap.size := Ro.out.lt
        have HA1 := Lib.hid hA1
        subst hA1
        clear hy
        by_cases hm : m ∈ l3
        · rw [decide_eq_true hm] at cHk0
          have HF := Lib.hid (show r = true from by
            rw [HE.out]
            unfold askedP
            rw [Bool.or_eq_true]
            refine .inr (List.any_eq_true.2 ⟨_, List.mem_map.2 ⟨_, HIn.out, rfl⟩, decide_eq_true hm⟩))
          have cHk := Lib.hid cHk0
          clear cHk0 hm
          go_upto_region 6 with fail
          apply wp_region_facts (by kernel_rfl) [isv _, isv _, isv _, isv _, isv _, isv _, isv _] wo.heap.size wo (Nat.le_refl _) (Below.refl _ _).drew (by kernel_rfl) (by kernel_rfl) (by kernel_rfl) (And.intro (isv_mono _) (And.intro (isv_mono _) (And.intro (isv_mono _) (And.intro (isv_mono _) (And.intro (isv_mono _) (And.intro (isv_mono _) (And.intro (isv_mono _) trivial))))))) ?steps (by rfl) ?fin
          case steps =>
            refine (And.intro ?o0 (And.intro ?o1 (And.intro ?o2 (And.intro ?o3 (And.intro ?o4 (And.intro ?o5 (And.intro ?o6 trivial)))))))
            case o0 =>
              intro AA W KK QQ hB hs hd hl hk
              have sl0 := hs 0 _ (by kernel_rfl) rfl
              clear hs hd hl
              go_simp
              exact hk _ _ rfl (Below.refl _ _)
            case o1 =>
              intro AA W KK QQ hB hs hd hl hk
              have sl7 := hs 7 _ (by kernel_rfl) rfl
              clear hs hd hl
              go_simp
              exact hk _ _ rfl (Below.refl _ _)
            case o2 =>
              intro AA W KK QQ hB hs hd hl hk
              obtain ⟨_, sl18, rfl⟩ := hd 0 18 (by kernel_rfl) rfl
              obtain ⟨_, sl19, rfl⟩ := hd 1 19 (by kernel_rfl) rfl
              clear hs hd hl
              go_simp
              exact hk _ _ rfl (Below.refl _ _)
            case o3 =>
              intro AA W KK QQ hB hs hd hl hk
              obtain ⟨_, sl20, rfl⟩ := hd 2 20 (by kernel_rfl) rfl
              clear hs hd hl
              go_simp
              exact hk _ _ rfl (Below.refl _ _)
            case o4 =>
              intro AA W KK QQ hB hs hd hl hk
              obtain ⟨_, sl21, rfl⟩ := hd 3 21 (by kernel_rfl) rfl
              clear hs hd hl
              have hx4 := hB.cell (p := ⟨b, off + k * 5 + 4, none⟩) hbB
              rw [g4] at hx4
              go_simp
              exact hk _ _ rfl (Below.refl _ _)
            case o5 =>
              intro AA W KK QQ hB hs hd hl hk
              have sl5 := hs 5 _ (by kernel_rfl) rfl
              clear hs hd hl
              have hx0 := hB.cell (p := ⟨(w.heap.size + 1), 0, none⟩) hmw
              have hx1 := hB.cell (p := ⟨(w.heap.size + 1), 0 + 1, none⟩) hmw
              have hx2 := hB.cell (p := ⟨(w.heap.size + 1), 0 + 2, none⟩) hmw
              have hx3 := hB.cell (p := ⟨(w.heap.size + 1), 0 + 3, none⟩) hmw
              rw [v0] at hx0
              rw [v1] at hx1
              rw [v2] at hx2
              rw [v3] at hx3
              go_simp
              exact hk _ _ rfl (Below.refl _ _)
            case o6 =>
              intro AA W KK QQ hB hs hd hl hk
              obtain ⟨_, sl22, rfl⟩ := hd 4 22 (by kernel_rfl) rfl
              obtain ⟨_, sl23, rfl⟩ := hd 5 23 (by kernel_rfl) rfl
              clear hs hd hl
              go_simp
              refine (cHk.out W hB).mono ?_
              rintro e W2 ⟨rfl, hb2⟩
              exact hk _ _ rfl hb2
          case fin =>
            intro w6 hB
            refine fin_isv 18 rfl ?_
            refine fin_isv 19 rfl ?_
            refine fin_isv 20 rfl ?_
            refine fin_isv 21 rfl ?_
            refine fin_isv 22 rfl ?_
            refine fin_isv 23 rfl ?_
            refine fin_isv 24 rfl ?_
            refine frame25_18_19_20_21_22_23_24 _ _ _ _ _ _ _ _ _ _ _ _ _ _ _ _ _ _ _ _ _ _ _ _ _ _ _ _ _ _ _ _ ?_
            have HB6 := Lib.hid (HBo.out.trans (hB.mono HBo.out.size))
            clear hB
            go_wp2
            go_ret
            exact ⟨by rw [HF.out]; rfl, HB6.out⟩
        · rw [decide_eq_false hm] at cHk0
          have HJ2 := Lib.hid (show ∀ x ∈ Y.take (k + 1), m ∉ x.2.2.2 from fun x hx => by
            rw [HTk.out] at hx
            rcases List.mem_append.1 hx with h | h
            · exact HJ.out x h
            · rw [List.mem_singleton.1 h]; exact hm)
          have cHk := Lib.hid cHk0
          clear cHk0 hm
          go_upto_region 6 with fail
          apply wp_region_facts (by kernel_rfl) [isv _, isv _, isv _, isv _, isv _, isv _, isv _] wo.heap.size wo (Nat.le_refl _) (Below.refl _ _).drew (by kernel_rfl) (by kernel_rfl) (by kernel_rfl) (And.intro (isv_mono _) (And.intro (isv_mono _) (And.intro (isv_mono _) (And.intro (isv_mono _) (And.intro (isv_mono _) (And.intro (isv_mono _) (And.intro (isv_mono _) trivial))))))) ?steps (by rfl) ?fin
          case steps =>
            refine (And.intro ?o0 (And.intro ?o1 (And.intro ?o2 (And.intro ?o3 (And.intro ?o4 (And.intro ?o5 (And.intro ?o6 trivial)))))))
            case o0 =>
              intro AA W KK QQ hB hs hd hl hk
              have sl0 := hs 0 _ (by kernel_rfl) rfl
              clear hs hd hl
              go_simp
              exact hk _ _ rfl (Below.refl _ _)
            case o1 =>
              intro AA W KK QQ hB hs hd hl hk
              have sl7 := hs 7 _ (by kernel_rfl) rfl
              clear hs hd hl
              go_simp
              exact hk _ _ rfl (Below.refl _ _)
            case o2 =>
              intro AA W KK QQ hB hs hd hl hk
              obtain ⟨_, sl18, rfl⟩ := hd 0 18 (by kernel_rfl) rfl
              obtain ⟨_, sl19, rfl⟩ := hd 1 19 (by kernel_rfl) rfl
              clear hs hd hl
              go_simp
              exact hk _ _ rfl (Below.refl _ _)
            case o3 =>
              intro AA W KK QQ hB hs hd hl hk
              obtain ⟨_, sl20, rfl⟩ := hd 2 20 (by kernel_rfl) rfl
              clear hs hd hl
              go_simp
              exact hk _ _ rfl (Below.refl _ _)
            case o4 =>
              intro AA W KK QQ hB hs hd hl hk
              obtain ⟨_, sl21, rfl⟩ := hd 3 21 (by kernel_rfl) rfl
              clear hs hd hl
              have hx4 := hB.cell (p := ⟨b, off + k * 5 + 4, none⟩) hbB
              rw [g4] at hx4
              go_simp
              exact hk _ _ rfl (Below.refl _ _)
            case o5 =>
              intro AA W KK QQ hB hs hd hl hk
              have sl5 := hs 5 _ (by kernel_rfl) rfl
              clear hs hd hl
              have hx0 := hB.cell (p := ⟨(w.heap.size + 1), 0, none⟩) hmw
              have hx1 := hB.cell (p := ⟨(w.heap.size + 1), 0 + 1, none⟩) hmw
              have hx2 := hB.cell (p := ⟨(w.heap.size + 1), 0 + 2, none⟩) hmw
              have hx3 := hB.cell (p := ⟨(w.heap.size + 1), 0 + 3, none⟩) hmw
              rw [v0] at hx0
              rw [v1] at hx1
              rw [v2] at hx2
              rw [v3] at hx3
              go_simp
              exact hk _ _ rfl (Below.refl _ _)
            case o6 =>
              intro AA W KK QQ hB hs hd hl hk
              obtain ⟨_, sl22, rfl⟩ := hd 4 22 (by kernel_rfl) rfl
              obtain ⟨_, sl23, rfl⟩ := hd 5 23 (by kernel_rfl) rfl
              clear hs hd hl
              go_simp
              refine (cHk.out W hB).mono ?_
              rintro e W2 ⟨rfl, hb2⟩
              exact hk _ _ rfl hb2
          case fin =>
            intro w6 hB
            refine fin_isv 18 rfl ?_
            refine fin_isv 19 rfl ?_
            refine fin_isv 20 rfl ?_
            refine fin_isv 21 rfl ?_
            refine fin_isv 22 rfl ?_
            refine fin_isv 23 rfl ?_
            refine fin_isv 24 rfl ?_
            refine frame25_18_19_20_21_22_23_24 _ _ _ _ _ _ _ _ _ _ _ _ _ _ _ _ _ _ _ _ _ _ _ _ _ _ _ _ _ _ _ _ ?_
            have HB6 := Lib.hid (HB.out.trans (hB.mono HB.out.size))
            clear hB
            go_wp2
            go_roundw
            case rel => exact ⟨k + 1, by omega, by go_num, HJ2, HB6⟩
            case measure => simp [intOf]; omega
      · obtain rfl : k = Y.length := by omega
        have HF := Lib.hid (show r = false from by
          rw [HE.out]
          unfold askedP
          rw [decide_eq_false HM.out, Bool.false_or, List.any_eq_false]
          intro x hx
          obtain ⟨y, hy, rfl⟩ := List.mem_map.1 hx
          have h := HJ.out y (by rw [List.take_length]; exact hy)
          exact fun hd => h (of_decide_eq_true hd))
        go_wp2
        go_ret
        exact ⟨by rw [HF.out]; rfl, HBo.out⟩
end Go.Proofs.YtfiilbdkhelhgaaDoor
