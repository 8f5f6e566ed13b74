/- Walks: the document's modules and UpgradeAll. -/
import Derived.Test.YtfiilbdkhelhgaaGreatDoorWU4
namespace Go.Proofs.YtfiilbdkhelhgaaGreatDoor
open Go.RowKit Go.Sort

def UAInv (z : Nat) (w0 : World) (YN : Nat) (MS : List Mod) (PA : Value) (xs : List UInt8) (gv : Mod) (ok : Bool) (t0 t1 t2 t3 t4 t5 t6 t7 t8 t9 t12 t13 t14 t15 t16 t17 t18 t19 t20 t21 t22 t23 t24 t25 t26 t27 t28 t29 t30 t31 t32 t33 t34 t46 t47 t48 t49 t50 t51 t52 : Value) (L : Array Bool) (a : Act) (W : World) : Prop :=
  ∃ (b0 b1 b2 b3 b4 b5 b6 b7 b8 b9 b10 b11 b12 b13 : Bool) (s10 s11 s35 s36 s37 s38 s39 s40 s41 s42 s43 s44 s45 : Value), L = #[b0, b1, b2, b3, b4, b5, b6, b7, b8, b9, b10, b11, b12, b13] ∧ a = ⟨#[t0, t1, t2, t3, t4, t5, t6, t7, t8, t9, s10, s11, t12, t13, t14, t15, t16, t17, t18, t19, t20, t21, t22, t23, t24, t25, t26, t27, t28, t29, t30, t31, t32, t33, t34, s35, s36, s37, s38, s39, s40, s41, s42, s43, s44, s45, t46, t47, t48, t49, t50, t51, t52], []⟩ ∧ Below z w0 W ∧ (b0 = true → s36 = t0) ∧ (b1 = true → b12 = false → ∃ (A : Option Addr) (c : Nat), s37 = .slice A YN c ∧ Sl W W.heap.size 4 encM A MS) ∧ (b2 = true → s38 = t6) ∧ (b3 = true → s39 = t9) ∧ (b4 = true → s40 = PA) ∧ (b5 = true → s41 = PA) ∧ (b6 = true → s42 = .string ⟨xs.toArray⟩) ∧ (b7 = true → s43 = .tuple #[.agg #[.string ⟨gv.1.toArray⟩, .int .i64 gv.2.1, .int .i64 gv.2.2.1, .int .i64 gv.2.2.2], .bool ok]) ∧ (b8 = true → b7 = true ∧ s35 = .tuple #[.agg #[.string ⟨gv.1.toArray⟩, .int .i64 gv.2.1, .int .i64 gv.2.2.1, .int .i64 gv.2.2.2], .bool ok]) ∧ (b9 = true → b7 = true ∧ s44 = .agg #[.string ⟨gv.1.toArray⟩, .int .i64 gv.2.1, .int .i64 gv.2.2.1, .int .i64 gv.2.2.2]) ∧ (b10 = true → s45 = .bool ok) ∧ (b11 = true → ∃ g c0 c1 c2 c3, s10 = .pointer (some ⟨g, 0, none⟩) ∧ z ≤ g ∧ Blk W g 30 #[c0, c1, c2, c3]) ∧ (b12 = true → b11 = true ∧ b7 = true ∧ ∃ (g : Nat), s10 = .pointer (some ⟨g, 0, none⟩) ∧ z ≤ g ∧ Blk W g 30 (modA gv)) ∧ (b13 = true → s11 = .bool ok)

set_option maxRecDepth 100000 in
set_option maxHeartbeats 4000000 in
theorem rmodules_any (A : Option Addr) (c : Nat) (Y : List ManW) (w : World) (hA : Sl w w.heap.size 5 encW A Y) (hl : Y.length ≤ 100000) :
    Calls Tryz.prog 51 #[.slice A Y.length c] w fun e w' => ∃ A' c', e = .returned (.slice A' Y.length c') ∧ Sl w' w'.heap.size 4 encM A' (Y.map (·.1)) ∧ Below w.heap.size w w' := by
  have HA := Lib.hid hA
  clear hA
  go_enter Tryz.func51, Tryz.ntmps51
  go_wp2
  go_loopw [3, 4] (fun v i wr => ∃ (k : Nat) (Av : Option Addr) (cv : Nat), k ≤ Y.length ∧ i = .int .i64 (k : Nat) ∧ v = .slice Av k cv ∧ Hid (wr.ownsRow w.heap.size 30 4 (.slice Av k cv) k (((Y.map (·.1)).take k).flatMap encM)) ∧ Hid (Below w.heap.size w wr)) (fun _ i _ => Y.length - (intOf i).toNat)
  case atStart => exact ⟨0, none, 0, Nat.zero_le _, rfl, rfl, Lib.hid (World.ownsRow_nil _ _ _ _), Lib.hid (Below.refl _ _)⟩
  case round =>
    obtain ⟨wo, hwo⟩ : ∃ wo, wo = wr := ⟨_, rfl⟩
    subst hwo
    obtain ⟨k, Av, cv, hk, rfl, rfl, HO, HB⟩ := hrel
    have hzo := HB.out.size
    by_cases hlt : k < Y.length
    · have hlt' : (k : Int) < (Y.length : Int) := by omega
      obtain ⟨b1, off1, hA1, hb1, g0, g1, g2, g3, g4⟩ := (HA.out.below HB.out).man hlt
      have HT := Lib.hid (show (Y.map (·.1)).take (k + 1) = (Y.map (·.1)).take k ++ [Y[k].1] from by
        rw [List.take_succ_eq_append_getElem (by simpa using hlt), List.getElem_map])
      subst hA1
      generalize Y[k].1 = x at g0 g1 g2 g3 HT
      have HX := Lib.hid (show Below wo.heap.size wo (wo.alloc (.cells #[.string ⟨x.1.toArray⟩, .int .i64 x.2.1, .int .i64 x.2.2.1, .int .i64 x.2.2.2] 30)) from (Below.refl _ _).alloc (Nat.le_refl _) _)
      obtain ⟨A8, c8, w8, hap, hO8, hb8⟩ := row_app (m := x) HO.out hzo (by omega)
      have HO8 := Lib.hid hO8
      have HB8 := Lib.hid (HB.out.trans hb8)
      clear hO8 hb8
      go_wp2_with (at_builtin; refine wpList_app1 rfl _ _ _ _ rfl _ _ rfl rfl hap ?_)
      go_roundw
      case rel => exact ⟨k + 1, A8, c8, by omega, by go_num, rfl, Lib.hid (by rw [HT.out]; exact HO8.out), HB8⟩
      case measure => simp [intOf]; omega
    · obtain rfl : k = Y.length := by omega
      rw [List.take_of_length_le (by simp)] at HO
      have HS := Lib.hid (Acc.slAny (.inl HO.out) encM_len (by decide) : Sl wo wo.heap.size 4 encM Av (Y.map (·.1)))
      go_wp2
      go_ret
      exact ⟨Av, cv, rfl, HS.out, HB.out⟩

theorem take1 {α : Type} {L : List α} {k : Nat} (hk : k < L.length) (h1 : 1 ≤ k) : (L.take (k + 1)).drop 1 = (L.take k).drop 1 ++ [L[k]] := by
  rw [List.take_succ_eq_append_getElem hk, List.drop_append_of_le_length (by rw [List.length_take]; omega)]

set_option maxRecDepth 100000 in
set_option maxHeartbeats 4000000 in
theorem rUpgradeAll_any (A : Option Addr) (c : Nat) (Y : List ManW) (y0 : ManW) (w : World) (hY : RegOk w w.heap.size A Y) (h0 : ManOk w w.heap.size y0) :
    Calls Tryz.prog 24 #[.slice A Y.length c, .agg #[.string ⟨y0.1.1.toArray⟩, .int .i64 y0.1.2.1, .int .i64 y0.1.2.2.1, .int .i64 y0.1.2.2.2, .slice y0.2.1 y0.2.2.2.length y0.2.2.1]] w
      (RetMF w (rupallP (regW Y) y0.1 y0.2.2.2)) := by
  obtain ⟨rm, A0, c0, l0⟩ := y0
  simp only
  have HY := Lib.hid hY
  have H0 := Lib.hid h0
  have hYl := hY.2.2
  have hb0 : Below w.heap.size w ((w.alloc (.cells (manA rm A0 l0.length c0) 33)).alloc (.cells (manA zmod none 0 0) 33)) := ((Below.refl _ _).alloc (Nat.le_refl _) _).alloc (by simp) _
  have q0 : Blk ((w.alloc (.cells (manA rm A0 l0.length c0) 33)).alloc (.cells (manA zmod none 0 0) 33)) w.heap.size 33 (manA rm A0 l0.length c0) := (Blk.new w 33 (manA rm A0 l0.length c0)).keep ((Below.refl _ _).alloc (Nat.le_refl _) _)
  have q1 : Blk ((w.alloc (.cells (manA rm A0 l0.length c0) 33)).alloc (.cells (manA zmod none 0 0) 33)) (w.heap.size + 1) 33 (manA zmod none 0 0) := by
    have h := Blk.new (w.alloc (.cells (manA rm A0 l0.length c0) 33)) 33 (manA zmod none 0 0)
    rw [World.size_alloc] at h
    exact h
  have cB0 := fun W (hW : Below w.heap.size w W) => rBuildList_any A c Y (rm, A0, c0, l0) W (HY.out.step hW) ((H0.out.keep hW).more hW.size)
  obtain ⟨r, hr⟩ : ∃ r, r = rupallP (regW Y) rm l0 := ⟨_, rfl⟩
  rw [← hr]
  unfold rupallP at hr
  simp only at cB0
  have hT0 := fun h => (build_tail (R := regW Y) (root := rm) (l := l0) h).len
  have hL0 : (buildP (regW Y) rm l0).2 = 0 → 1 ≤ (buildP (regW Y) rm l0).1.length := fun h => by
    rw [(buildP_ok h).2.2.2]
    simp [listP]
  generalize buildP (regW Y) rm l0 = B at cB0 hr hT0 hL0
  obtain ⟨L, e1⟩ := B
  unfold RetB at cB0
  simp only at cB0 hr hT0 hL0
  have HR := Lib.hid hr
  have cB := Lib.hid cB0
  have Q0 := Lib.hid q0
  have Q1 := Lib.hid q1
  have HB0 := Lib.hid hb0
  clear hY h0 hb0 q0 q1 cB0 hr
  unfold manA zmod at HB0 Q0 Q1
  generalize hQ : RetMF w r = Q
  have hge : w.heap.size ≤ w.heap.size + 1 := by omega
  by_cases he1 : e1 = 0
  · subst he1
    have hL1 := hL0 rfl
    have HR1 := Lib.hid (HR.out.trans (if_pos rfl))
    have hDl : L.length ≤ Y.length + 1 := by have := hT0 rfl; rw [List.length_drop] at this; simp only [regW, List.length_map] at this; omega
    clear hT0 hL0 HR
    go_enter Tryz.func24, Tryz.ntmps24
    go_wp2_with fail
    refine (cB.out _ HB0.out).mono ?_
    rintro e w1 ⟨A1, c1, rfl, hc1, hS1, hb1⟩
    have HB1 := Lib.hid (HB0.out.trans (hb1.mono HB0.out.size))
    have R0 := Lib.hid (Q0.out.keep hb1)
    have R1 := Lib.hid (Q1.out.keep hb1)
    have HSL := Lib.hid hS1
    have hz1 : w.heap.size + 1 < w1.heap.size := by have h1 := R1.out.lt; omega
    clear hb1 cB Q0 Q1 HB0 hS1 hc1
    by_cases h65 : 65 < L.length
    · have h65' : (65 : Int) < (L.length : Int) := by omega
      have HR2 := Lib.hid (HR1.out.trans (if_pos h65))
      have k0 := R1.out.cell 0
      have k1 := R1.out.cell 1
      have k2 := R1.out.cell 2
      have k3 := R1.out.cell 3
      have k4 := R1.out.cell 4
      have f0 := R1.out.free 0
      have f1 := R1.out.free 1
      have f2 := R1.out.free 2
      have f3 := R1.out.free 3
      have f4 := R1.out.free 4
      simp at k0 k1 k2 k3 k4
      go_wp2
      refine bodyPost_ret (v := .tuple #[.agg #[.string ⟨#[]⟩, .int .i64 0, .int .i64 0, .int .i64 0, .slice none 0 0], .int .i64 2]) (by simp [results, Tryz.results24, go_sem, k0, k1, k2, k3, k4]; try rfl) rfl ?_
      rw [← hQ]
      refine retMF_zero HR2.out ?_
      exact ((((HB1.out.setCell hge _).setCell hge _).setCell hge _).setCell hge _).setCell hge _
    · have h65' : ¬ (65 : Int) < (L.length : Int) := by omega
      have HR2 := Lib.hid (HR1.out.trans (if_neg h65))
      have HA2 := Lib.hid (show Below w1.heap.size w1 (w1.alloc (.cells #[.string ⟨rm.1.toArray⟩, .int .i64 rm.2.1, .int .i64 rm.2.2.1, .int .i64 rm.2.2.2, .slice none 0 0] 33)) from (Below.refl _ _).alloc (Nat.le_refl _) _)
      have S1 := Lib.hid (R1.out.keep HA2.out)
      have S2 := Lib.hid (show Blk (w1.alloc (.cells #[.string ⟨rm.1.toArray⟩, .int .i64 rm.2.1, .int .i64 rm.2.2.1, .int .i64 rm.2.2.2, .slice none 0 0] 33)) w1.heap.size 33 (manA rm none 0 0) from Blk.new w1 33 (manA rm none 0 0))
      have HB2 := Lib.hid (HB1.out.trans (HA2.out.mono HB1.out.size))
      have hz2 : (w1.alloc (.cells #[.string ⟨rm.1.toArray⟩, .int .i64 rm.2.1, .int .i64 rm.2.2.1, .int .i64 rm.2.2.2, .slice none 0 0] 33)).heap.size = w1.heap.size + 1 := World.size_alloc _ _
      have HSL2 := Lib.hid (HSL.out.below HA2.out)
      obtain ⟨W2, hW2⟩ : ∃ W, W = w1.alloc (.cells #[.string ⟨rm.1.toArray⟩, .int .i64 rm.2.1, .int .i64 rm.2.2.1, .int .i64 rm.2.2.2, .slice none 0 0] 33) := ⟨_, rfl⟩
      rw [← hW2] at S1 S2 HB2 hz2 HSL2
      have HW2 := Lib.hid hW2
      obtain ⟨s0, s1, s2, s3, s4⟩ := manC (A := A0) (n := l0.length) (c := c0) (m := rm) R0.out
      clear hW2 HSL HA2 h65 HR1
      go_wp2_with fail
      go_loopw [9] (fun i wr => ∃ (k n : Nat) (Av : Option Addr) (cv : Nat), k ≤ L.length ∧ 1 ≤ k ∧ i = .int .i64 (k : Nat) ∧ Hid (n + 1 = k) ∧ Hid (Blk wr w1.heap.size 33 #[.string ⟨rm.1.toArray⟩, .int .i64 rm.2.1, .int .i64 rm.2.2.1, .int .i64 rm.2.2.2, .slice Av n cv]) ∧
        Hid (wr.ownsRow (w1.heap.size + 1) 30 4 (.slice Av n cv) n ((rallL (regW Y) ((L.take k).drop 1)).flatMap encM)) ∧ Hid (Below w1.heap.size W2 wr)) (fun i _ => L.length - (intOf i).toNat)
      case atStart =>
        rw [← HW2.out]
        exact ⟨1, 0, none, 0, hL1, Nat.le_refl _, rfl, Lib.hid rfl, S2, Lib.hid (by rw [show (L.take 1).drop 1 = [] from List.drop_eq_nil_of_le (by rw [List.length_take]; omega)]; exact World.ownsRow_nil _ _ _ _), Lib.hid (Below.refl _ _)⟩
      case round =>
        obtain ⟨wo, hwo⟩ : ∃ wo, wo = wr := ⟨_, rfl⟩
        subst hwo
        obtain ⟨k, n, Av, cv, hk, hk1, rfl, hnk, HO, HA, HB⟩ := hrel
        have HBN := Lib.hid (HB2.out.trans (HB.out.mono (by omega)))
        have hzB := HB.out.size
        have HT2 := Lib.hid (blk_below S1.out HB.out (by omega))
        by_cases hlt : k < L.length
        · have hlt' : (k : Int) < (L.length : Int) := by omega
          obtain ⟨bb, off, hA0, hbB, g0, g1, g2, g3⟩ := (((HSL2.out.below HB.out).more (show w1.heap.size ≤ wo.heap.size by omega)).mod (i := k) hlt)
          have HTk := Lib.hid (show rallL (regW Y) ((L.take (k + 1)).drop 1) = rallL (regW Y) ((L.take k).drop 1) ++ [(greatestP ((regW Y).map (·.1)) L[k].1).getD zmod] from by rw [take1 hlt hk1]; unfold rallL; rw [List.map_append]; rfl)
          generalize L[k] = x at g0 g1 g2 g3 HTk
          subst hA0
          have hrm : (regW Y).map (·.1) = Y.map (·.1) := by unfold regW; rw [List.map_map]; rfl
          rw [hrm] at HTk
          have cMo := Lib.hid (fun W (hW : Below wo.heap.size wo W) => rmodules_any A c Y W ((HY.out.step (HBN.out.trans (hW.mono HBN.out.size))).1) (by omega))
          have cGr0 := fun (A : Option Addr) (c : Nat) W (hS : Sl W W.heap.size 4 encM A (Y.map (·.1))) => greatest_any A c (Y.map (·.1)) x.1 W hS (by rw [List.length_map]; omega)
          unfold RetG at cGr0
          simp only [List.length_map] at cGr0
          obtain ⟨gv, hgv⟩ : ∃ gv, gv = (greatestP (Y.map (·.1)) x.1).getD zmod := ⟨_, rfl⟩
          rw [← hgv] at HTk cGr0
          generalize (greatestP (Y.map (·.1)) x.1).isSome = ok at cGr0
          have cGr := Lib.hid cGr0
          clear cGr0 hgv hrm
          go_upto_region 10 with fail
          apply wp_region_each (by kernel_rfl) (UAInv wo.heap.size wo Y.length (Y.map (·.1)) (.pointer (some ⟨bb, off + k * 4, none⟩)) x.1 gv ok _ _ _ _ _ _ _ _ _ _ _ _ _ _ _ _ _ _ _ _ _ _ _ _ _ _ _ _ _ _ _ _ _ _ _ _ _ _ _ _) ?hsz ?h0 ?step (by kernel_rfl) ?fin
          case h0 =>
            exact ⟨false, false, false, false, false, false, false, false, false, false, false, false, false, false, _, _, _, _, _, _, _, _, _, _, _, _, _, rfl, rfl, (Below.refl _ _).drew, fun h => absurd h (by decide), fun h => absurd h (by decide), fun h => absurd h (by decide), fun h => absurd h (by decide), fun h => absurd h (by decide), fun h => absurd h (by decide), fun h => absurd h (by decide), fun h => absurd h (by decide), fun h => absurd h (by decide), fun h => absurd h (by decide), fun h => absurd h (by decide), fun h => absurd h (by decide), fun h => absurd h (by decide), fun h => absurd h (by decide)⟩
          case hsz =>
            rintro L a w ⟨b0, b1, b2, b3, b4, b5, b6, b7, b8, b9, b10, b11, b12, b13, s10, s11, s35, s36, s37, s38, s39, s40, s41, s42, s43, s44, s45, rfl, _⟩
            rfl
          case step =>
            rintro i o ho L a W hn hd ⟨b0, b1, b2, b3, b4, b5, b6, b7, b8, b9, b10, b11, b12, b13, s10, s11, s35, s36, s37, s38, s39, s40, s41, s42, s43, s44, s45, rfl, rfl, hB, h0, h1, h2, h3, h4, h5, h6, h7, h8, h9, h10, h11, h12, h13⟩
            have hBz := hB.size
            match i, ho with
            | 0, ho =>
              simp at ho; subst ho
              simp only [Region.wanted, if_true]
              left
              go_simp
              exact ⟨true, b1, b2, b3, b4, b5, b6, b7, b8, b9, b10, b11, b12, b13, _, _, _, _, _, _, _, _, _, _, _, _, _, rfl, rfl, hB, fun _ => rfl, (by first | exact h1 | exact fun _ => rfl), (by first | exact h2 | exact fun _ => rfl), (by first | exact h3 | exact fun _ => rfl), (by first | exact h4 | exact fun _ => rfl), (by first | exact h5 | exact fun _ => rfl), (by first | exact h6 | exact fun _ => rfl), (by first | exact h7 | exact fun _ => rfl), (by first | exact h8 | exact fun _ => rfl), (by first | exact h9 | exact fun _ => rfl), (by first | exact h10 | exact fun _ => rfl), (by first | exact h11 | exact fun _ => rfl), (by first | exact h12 | exact fun _ => rfl), (by first | exact h13 | exact fun _ => rfl)⟩
            | 1, ho =>
              simp at ho; subst ho
              have e0 : b0 = true := by simp [Region.binds] at hd; simp [hd]
              subst e0
              obtain rfl := h0 rfl
              simp at hn
              subst hn
              simp only [Region.wanted, if_true]
              left
              go_simp
              refine (cMo.out W hB).mono ?_
              rintro e W2 ⟨A, c, rfl, hS, hb2⟩
              exact ⟨true, true, b2, b3, b4, b5, b6, b7, b8, b9, b10, b11, b12, b13, _, _, _, _, _, _, _, _, _, _, _, _, _, rfl, rfl, hB.trans ((hb2).mono hBz), (by first | exact h0 | exact fun _ => rfl), fun _ => fun _ => ⟨A, c, rfl, hS⟩, (by first | exact h2 | exact fun _ => rfl), (by first | exact h3 | exact fun _ => rfl), (by first | exact h4 | exact fun _ => rfl), (by first | exact h5 | exact fun _ => rfl), (by first | exact h6 | exact fun _ => rfl), (by first | exact h7 | exact fun _ => rfl), (by first | exact h8 | exact fun _ => rfl), (by first | exact h9 | exact fun _ => rfl), (by first | exact h10 | exact fun _ => rfl), (by first | exact fun hh => (match (h11 hh) with | ⟨g, c0, c1, c2, c3, e, h1, h2⟩ => ⟨g, c0, c1, c2, c3, e, h1, h2.keep hb2⟩) | exact fun _ => rfl), (by first | exact fun hh => (match (h12 hh) with | ⟨q, q2, g, e, hz, h1⟩ => ⟨q, q2, g, e, hz, h1.keep hb2⟩) | exact fun _ => rfl), (by first | exact h13 | exact fun _ => rfl)⟩
            | 2, ho =>
              simp at ho; subst ho
              simp only [Region.wanted, if_true]
              left
              go_simp
              exact ⟨b0, b1, true, b3, b4, b5, b6, b7, b8, b9, b10, b11, b12, b13, _, _, _, _, _, _, _, _, _, _, _, _, _, rfl, rfl, hB, (by first | exact h0 | exact fun _ => rfl), (by first | exact h1 | exact fun _ => rfl), fun _ => rfl, (by first | exact h3 | exact fun _ => rfl), (by first | exact h4 | exact fun _ => rfl), (by first | exact h5 | exact fun _ => rfl), (by first | exact h6 | exact fun _ => rfl), (by first | exact h7 | exact fun _ => rfl), (by first | exact h8 | exact fun _ => rfl), (by first | exact h9 | exact fun _ => rfl), (by first | exact h10 | exact fun _ => rfl), (by first | exact h11 | exact fun _ => rfl), (by first | exact h12 | exact fun _ => rfl), (by first | exact h13 | exact fun _ => rfl)⟩
            | 3, ho =>
              simp at ho; subst ho
              simp only [Region.wanted, if_true]
              left
              go_simp
              exact ⟨b0, b1, b2, true, b4, b5, b6, b7, b8, b9, b10, b11, b12, b13, _, _, _, _, _, _, _, _, _, _, _, _, _, rfl, rfl, hB, (by first | exact h0 | exact fun _ => rfl), (by first | exact h1 | exact fun _ => rfl), (by first | exact h2 | exact fun _ => rfl), fun _ => rfl, (by first | exact h4 | exact fun _ => rfl), (by first | exact h5 | exact fun _ => rfl), (by first | exact h6 | exact fun _ => rfl), (by first | exact h7 | exact fun _ => rfl), (by first | exact h8 | exact fun _ => rfl), (by first | exact h9 | exact fun _ => rfl), (by first | exact h10 | exact fun _ => rfl), (by first | exact h11 | exact fun _ => rfl), (by first | exact h12 | exact fun _ => rfl), (by first | exact h13 | exact fun _ => rfl)⟩
            | 4, ho =>
              simp at ho; subst ho
              have e2 : b2 = true := by simp [Region.binds] at hd; simp [hd]
              have e3 : b3 = true := by simp [Region.binds] at hd; simp [hd]
              subst e2
              subst e3
              obtain rfl := h2 rfl
              obtain rfl := h3 rfl
              simp only [Region.wanted, if_true]
              left
              go_simp
              exact ⟨b0, b1, true, true, true, b5, b6, b7, b8, b9, b10, b11, b12, b13, _, _, _, _, _, _, _, _, _, _, _, _, _, rfl, rfl, hB, (by first | exact h0 | exact fun _ => rfl), (by first | exact h1 | exact fun _ => rfl), (by first | exact h2 | exact fun _ => rfl), (by first | exact h3 | exact fun _ => rfl), fun _ => rfl, (by first | exact h5 | exact fun _ => rfl), (by first | exact h6 | exact fun _ => rfl), (by first | exact h7 | exact fun _ => rfl), (by first | exact h8 | exact fun _ => rfl), (by first | exact h9 | exact fun _ => rfl), (by first | exact h10 | exact fun _ => rfl), (by first | exact h11 | exact fun _ => rfl), (by first | exact h12 | exact fun _ => rfl), (by first | exact h13 | exact fun _ => rfl)⟩
            | 5, ho =>
              simp at ho; subst ho
              have e4 : b4 = true := by simp [Region.binds] at hd; simp [hd]
              subst e4
              obtain rfl := h4 rfl
              simp only [Region.wanted, if_true]
              left
              go_simp
              exact ⟨b0, b1, b2, b3, true, true, b6, b7, b8, b9, b10, b11, b12, b13, _, _, _, _, _, _, _, _, _, _, _, _, _, rfl, rfl, hB, (by first | exact h0 | exact fun _ => rfl), (by first | exact h1 | exact fun _ => rfl), (by first | exact h2 | exact fun _ => rfl), (by first | exact h3 | exact fun _ => rfl), (by first | exact h4 | exact fun _ => rfl), fun _ => rfl, (by first | exact h6 | exact fun _ => rfl), (by first | exact h7 | exact fun _ => rfl), (by first | exact h8 | exact fun _ => rfl), (by first | exact h9 | exact fun _ => rfl), (by first | exact h10 | exact fun _ => rfl), (by first | exact h11 | exact fun _ => rfl), (by first | exact h12 | exact fun _ => rfl), (by first | exact h13 | exact fun _ => rfl)⟩
            | 6, ho =>
              simp at ho; subst ho
              have e5 : b5 = true := by simp [Region.binds] at hd; simp [hd]
              subst e5
              obtain rfl := h5 rfl
              have hx0 := hB.cell (p := ⟨bb, off + k * 4, none⟩) hbB
              rw [g0] at hx0
              simp only [Region.wanted, if_true]
              left
              go_simp
              exact ⟨b0, b1, b2, b3, b4, true, true, b7, b8, b9, b10, b11, b12, b13, _, _, _, _, _, _, _, _, _, _, _, _, _, rfl, rfl, hB, (by first | exact h0 | exact fun _ => rfl), (by first | exact h1 | exact fun _ => rfl), (by first | exact h2 | exact fun _ => rfl), (by first | exact h3 | exact fun _ => rfl), (by first | exact h4 | exact fun _ => rfl), (by first | exact h5 | exact fun _ => rfl), fun _ => rfl, (by first | exact h7 | exact fun _ => rfl), (by first | exact h8 | exact fun _ => rfl), (by first | exact h9 | exact fun _ => rfl), (by first | exact h10 | exact fun _ => rfl), (by first | exact h11 | exact fun _ => rfl), (by first | exact h12 | exact fun _ => rfl), (by first | exact h13 | exact fun _ => rfl)⟩
            | 7, ho =>
              simp at ho; subst ho
              have e1 : b1 = true := by simp [Region.binds] at hd; simp [hd]
              have e6 : b6 = true := by simp [Region.binds] at hd; simp [hd]
              subst e1
              subst e6
              obtain rfl := h6 rfl
              simp at hn
              subst hn
              have hb12 : b12 = false := by cases b12 with | false => rfl | true => exact absurd (h12 rfl).2.1 (by decide)
              subst hb12
              obtain ⟨A, c, rfl, hS⟩ := h1 rfl rfl
              simp only [Region.wanted, if_true]
              left
              go_simp
              refine (cGr.out A c W hS).mono ?_
              rintro e W2 ⟨rfl, hb2⟩
              exact ⟨b0, true, b2, b3, b4, b5, true, true, b8, b9, b10, b11, false, b13, _, _, _, _, _, _, _, _, _, _, _, _, _, rfl, rfl, hB.trans ((hb2).mono hBz), (by first | exact h0 | exact fun _ => rfl), (by first | exact fun hh => (fun h12 => match (h1 hh) h12 with | ⟨A, c, e, h1⟩ => ⟨A, c, e, (h1.below hb2).more (hb2).size⟩) | exact fun _ => rfl), (by first | exact h2 | exact fun _ => rfl), (by first | exact h3 | exact fun _ => rfl), (by first | exact h4 | exact fun _ => rfl), (by first | exact h5 | exact fun _ => rfl), (by first | exact h6 | exact fun _ => rfl), fun _ => rfl, fun hh => absurd (h8 hh).1 (by decide), fun hh => absurd (h9 hh).1 (by decide), (by first | exact h10 | exact fun _ => rfl), (by first | exact fun hh => (match (h11 hh) with | ⟨g, c0, c1, c2, c3, e, h1, h2⟩ => ⟨g, c0, c1, c2, c3, e, h1, h2.keep hb2⟩) | exact fun _ => rfl), fun h => absurd h (by decide), (by first | exact h13 | exact fun _ => rfl)⟩
            | 8, ho =>
              simp at ho; subst ho
              have e7 : b7 = true := by simp [Region.binds] at hd; simp [hd]
              subst e7
              obtain rfl := h7 rfl
              simp only [Region.wanted, if_true]
              left
              go_simp
              exact ⟨b0, b1, b2, b3, b4, b5, b6, true, true, b9, b10, b11, b12, b13, _, _, _, _, _, _, _, _, _, _, _, _, _, rfl, rfl, hB, (by first | exact h0 | exact fun _ => rfl), (by first | exact h1 | exact fun _ => rfl), (by first | exact h2 | exact fun _ => rfl), (by first | exact h3 | exact fun _ => rfl), (by first | exact h4 | exact fun _ => rfl), (by first | exact h5 | exact fun _ => rfl), (by first | exact h6 | exact fun _ => rfl), (by first | exact h7 | exact fun _ => rfl), fun _ => ⟨rfl, rfl⟩, (by first | exact h9 | exact fun _ => rfl), (by first | exact h10 | exact fun _ => rfl), (by first | exact h11 | exact fun _ => rfl), (by first | exact h12 | exact fun _ => rfl), (by first | exact h13 | exact fun _ => rfl)⟩
            | 9, ho =>
              simp at ho; subst ho
              have e8 : b8 = true := by simp [Region.binds] at hd; simp [hd]
              subst e8
              obtain ⟨rfl, rfl⟩ := h8 rfl
              simp only [Region.wanted, if_true]
              left
              go_simp
              exact ⟨b0, b1, b2, b3, b4, b5, b6, true, true, true, b10, b11, b12, b13, _, _, _, _, _, _, _, _, _, _, _, _, _, rfl, rfl, hB, (by first | exact h0 | exact fun _ => rfl), (by first | exact h1 | exact fun _ => rfl), (by first | exact h2 | exact fun _ => rfl), (by first | exact h3 | exact fun _ => rfl), (by first | exact h4 | exact fun _ => rfl), (by first | exact h5 | exact fun _ => rfl), (by first | exact h6 | exact fun _ => rfl), (by first | exact h7 | exact fun _ => rfl), (by first | exact h8 | exact fun _ => rfl), fun _ => ⟨rfl, rfl⟩, (by first | exact h10 | exact fun _ => rfl), (by first | exact h11 | exact fun _ => rfl), (by first | exact h12 | exact fun _ => rfl), (by first | exact h13 | exact fun _ => rfl)⟩
            | 10, ho =>
              simp at ho; subst ho
              have e8 : b8 = true := by simp [Region.binds] at hd; simp [hd]
              subst e8
              obtain ⟨rfl, rfl⟩ := h8 rfl
              simp only [Region.wanted, if_true]
              left
              go_simp
              exact ⟨b0, b1, b2, b3, b4, b5, b6, true, true, b9, true, b11, b12, b13, _, _, _, _, _, _, _, _, _, _, _, _, _, rfl, rfl, hB, (by first | exact h0 | exact fun _ => rfl), (by first | exact h1 | exact fun _ => rfl), (by first | exact h2 | exact fun _ => rfl), (by first | exact h3 | exact fun _ => rfl), (by first | exact h4 | exact fun _ => rfl), (by first | exact h5 | exact fun _ => rfl), (by first | exact h6 | exact fun _ => rfl), (by first | exact h7 | exact fun _ => rfl), (by first | exact h8 | exact fun _ => rfl), (by first | exact h9 | exact fun _ => rfl), fun _ => rfl, (by first | exact h11 | exact fun _ => rfl), (by first | exact h12 | exact fun _ => rfl), (by first | exact h13 | exact fun _ => rfl)⟩
            | 11, ho =>
              simp at ho; subst ho
              simp at hn
              simp only [Region.wanted, if_true]
              left
              go_simp
              exact ⟨b0, b1, b2, b3, b4, b5, b6, b7, b8, b9, b10, true, b12, b13, _, _, _, _, _, _, _, _, _, _, _, _, _, rfl, rfl, hB.trans ((((Below.refl W.heap.size W).alloc (Nat.le_refl _) (.cells (modA zmod) 30))).mono hBz), (by first | exact h0 | exact fun _ => rfl), (by first | exact fun hh => (fun h12 => match (h1 hh) h12 with | ⟨A, c, e, h1⟩ => ⟨A, c, e, (h1.below ((Below.refl W.heap.size W).alloc (Nat.le_refl _) (.cells (modA zmod) 30))).more (((Below.refl W.heap.size W).alloc (Nat.le_refl _) (.cells (modA zmod) 30))).size⟩) | exact fun _ => rfl), (by first | exact h2 | exact fun _ => rfl), (by first | exact h3 | exact fun _ => rfl), (by first | exact h4 | exact fun _ => rfl), (by first | exact h5 | exact fun _ => rfl), (by first | exact h6 | exact fun _ => rfl), (by first | exact h7 | exact fun _ => rfl), (by first | exact h8 | exact fun _ => rfl), (by first | exact h9 | exact fun _ => rfl), (by first | exact h10 | exact fun _ => rfl), fun _ => ⟨_, _, _, _, _, rfl, hBz, Blk.new W 30 (modA zmod)⟩, fun hh => absurd (h12 hh).1 (by rw [hn]; decide), (by first | exact h13 | exact fun _ => rfl)⟩
            | 12, ho =>
              simp at ho; subst ho
              have e9 : b9 = true := by simp [Region.binds] at hd; simp [hd]
              have e11 : b11 = true := by simp [Region.binds] at hd; simp [hd]
              subst e9
              subst e11
              obtain ⟨rfl, rfl⟩ := h9 rfl
              obtain ⟨g7, c0, c1, c2, c3, rfl, hz7, p8⟩ := h11 rfl
              have k0 := p8.cell 0
              have k1 := p8.cell 1
              have k2 := p8.cell 2
              have k3 := p8.cell 3
              have f0 := p8.free 0
              have f1 := p8.free 1
              have f2 := p8.free 2
              have f3 := p8.free 3
              simp at k0 k1 k2 k3
              simp only [Region.wanted, if_true]
              left
              go_simp
              exact ⟨b0, b1, b2, b3, b4, b5, b6, true, b8, true, b10, true, true, b13, _, _, _, _, _, _, _, _, _, _, _, _, _, rfl, rfl, (((hB.setCell (p := ⟨g7, 0, none⟩) hz7 _).setCell (p := ⟨g7, 1, none⟩) hz7 _).setCell (p := ⟨g7, 2, none⟩) hz7 _).setCell (p := ⟨g7, 3, none⟩) hz7 _, (by first | exact h0 | exact fun _ => rfl), fun _ h => absurd h (by decide), (by first | exact h2 | exact fun _ => rfl), (by first | exact h3 | exact fun _ => rfl), (by first | exact h4 | exact fun _ => rfl), (by first | exact h5 | exact fun _ => rfl), (by first | exact h6 | exact fun _ => rfl), (by first | exact h7 | exact fun _ => rfl), (by first | exact h8 | exact fun _ => rfl), (by first | exact h9 | exact fun _ => rfl), (by first | exact h10 | exact fun _ => rfl), fun _ => ⟨g7, _, _, _, _, rfl, hz7, (((p8.set_ 0 _).set_ 1 _).set_ 2 _).set_ 3 _⟩, fun _ => ⟨rfl, rfl, g7, rfl, hz7, (((p8.set_ 0 _).set_ 1 _).set_ 2 _).set_ 3 _⟩, (by first | exact h13 | exact fun _ => rfl)⟩
            | 13, ho =>
              simp at ho; subst ho
              have e10 : b10 = true := by simp [Region.binds] at hd; simp [hd]
              subst e10
              obtain rfl := h10 rfl
              simp only [Region.wanted, if_true]
              left
              go_simp
              exact ⟨b0, b1, b2, b3, b4, b5, b6, b7, b8, b9, true, b11, b12, true, _, _, _, _, _, _, _, _, _, _, _, _, _, rfl, rfl, hB, (by first | exact h0 | exact fun _ => rfl), (by first | exact h1 | exact fun _ => rfl), (by first | exact h2 | exact fun _ => rfl), (by first | exact h3 | exact fun _ => rfl), (by first | exact h4 | exact fun _ => rfl), (by first | exact h5 | exact fun _ => rfl), (by first | exact h6 | exact fun _ => rfl), (by first | exact h7 | exact fun _ => rfl), (by first | exact h8 | exact fun _ => rfl), (by first | exact h9 | exact fun _ => rfl), (by first | exact h10 | exact fun _ => rfl), (by first | exact h11 | exact fun _ => rfl), (by first | exact h12 | exact fun _ => rfl), fun _ => rfl⟩
            | i + 14, ho => simp at ho
          case fin =>
            rintro L a wf hr ⟨b0, b1, b2, b3, b4, b5, b6, b7, b8, b9, b10, b11, b12, b13, s10, s11, s35, s36, s37, s38, s39, s40, s41, s42, s43, s44, s45, hL, rfl, hB, h0, h1, h2, h3, h4, h5, h6, h7, h8, h9, h10, h11, h12, h13⟩
            subst hL
            obtain rfl : b12 = true := hr 12 (by decide)
            obtain rfl : b13 = true := hr 13 (by decide)
            obtain ⟨_, _, g7, rfl, hz7, hb7⟩ := h12 rfl
            obtain rfl := h13 rfl
            clear hr h0 h1 h2 h3 h4 h5 h6 h7 h8 h9 h10 h11 h12 h13
            have HOW := Lib.hid (HO.out.keep hB)
            have HAW := Lib.hid (own_below2 HA.out hB)
            have HBW := Lib.hid (HB.out.trans (hB.mono (by omega)))
            have HB7 := Lib.hid hb7
            have hzf := hB.size
            obtain ⟨p0, p1, p2, p3, p4⟩ := manC HOW.out
            obtain ⟨k0, k1, k2, k3⟩ := modC HB7.out
            have b0 : n + 1 ≤ maxLen := by have := hnk.out; unfold maxLen; omega
            have b1 : (n + 1) * 40 ≤ 140737488355328 := by have := hnk.out; omega
            have HWA := Lib.hid (show Below wf.heap.size wf (wf.alloc (.cells #[.string ⟨gv.1.toArray⟩, .int .i64 gv.2.1, .int .i64 gv.2.2.1, .int .i64 gv.2.2.2] 30)) from (Below.refl _ _).alloc (Nat.le_refl _) _)
            have HAA := Lib.hid (own_below2 HAW.out HWA.out)
            have hbz : w1.heap.size + 1 ≤ (wf.alloc (.cells #[.string ⟨gv.1.toArray⟩, .int .i64 gv.2.1, .int .i64 gv.2.2.1, .int .i64 gv.2.2.2] 30)).heap.size := by have := HWA.out.size; omega
            clear hB hb7 HAW
            go_wp2_with (at_builtin; refine wpList_own rfl (.tmp 47) (.tmp 49) rfl (w1.heap.size + 1) elMod (.slice Av n cv) n _ rfl HAA.out _ 1 _ _ rfl (Src.lit _ 4 _ _ 1 rfl) (by decide) (by simp [Value.oneCell']) b0 b1 hbz ?_; intro v' w7 hown7 hgrow7 hb7; obtain ⟨A7, c7, rfl⟩ := Acc.shape (.inl hown7); have HO7 := Lib.hid (blk_below (HOW.out.keep HWA.out) hb7 (by omega)); have HOWN := Lib.hid hown7; have HB7 := Lib.hid hb7; have o4 := HO7.out.cell 4; have f4 := HO7.out.free 4; have hz7 := hb7.size; simp at o4; clear hown7 hgrow7 hb7)
            go_roundw
            case rel => exact ⟨k + 1, n + 1, A7, c7, by omega, by omega, by go_num, Lib.hid (by have := hnk.out; omega), Lib.hid (HO7.out.set_ 4 _), Lib.hid (by rw [HTk.out, List.flatMap_append]; exact HOWN.out.kept (grown_set w7 _ _) (.inr (own_apart HOWN.out (by show w1.heap.size < _; omega)))),
              Lib.hid (((HBW.out.trans (HWA.out.mono (by omega))).trans (HB7.out.mono (by omega))).setCell (p := ⟨w1.heap.size, 4, none⟩) (by show w1.heap.size ≤ w1.heap.size; omega) _)⟩
            case measure => simp [intOf]; omega
        · obtain rfl : k = L.length := by omega
          rw [List.take_of_length_le (Nat.le_refl _)] at HA
          have hel : (rallL (regW Y) (L.drop 1)).length = n := by unfold rallL; rw [List.length_map, List.length_drop]; have := hnk.out; omega
          generalize rallL (regW Y) (L.drop 1) = E at HA HR2 hel
          subst hel
          have hS := (Acc.slAny (.inl HA.out) encM_len (by decide) : Sl wo wo.heap.size 4 encM Av E)
          have HS8 := Lib.hid hS
          have HLOW := Lib.hid (show E = [] ∨ ∀ a, Av = some a → w1.heap.size + 1 ≤ a.block from .inr fun a ha => by
            have h1 := HA.out.lt a.block (by rw [ha]; rfl)
            exact h1.1)
          obtain ⟨p0, p1, p2, p3, p4⟩ := manC HO.out
          have k0 := HT2.out.cell 0
          have k1 := HT2.out.cell 1
          have k2 := HT2.out.cell 2
          have k3 := HT2.out.cell 3
          have k4 := HT2.out.cell 4
          have f0 := HT2.out.free 0
          have f1 := HT2.out.free 1
          have f2 := HT2.out.free 2
          have f3 := HT2.out.free 3
          have f4 := HT2.out.free 4
          simp at k0 k1 k2 k3 k4
          have HF8 := Lib.hid (show E = [] ∨ ∀ a, Av = some a → a.block ≠ w.heap.size + 1 from HLOW.out.imp_right fun h a ha => by have := h a ha; omega)
          have HG8 := Lib.hid (show E = [] ∨ ∀ a, Av = some a → w.heap.size ≤ a.block from HLOW.out.imp_right fun h a ha => by have := h a ha; omega)
          clear hS
          go_wp2
          refine bodyPost_ret (v := .tuple #[.agg #[.string ⟨rm.1.toArray⟩, .int .i64 rm.2.1, .int .i64 rm.2.2.1, .int .i64 rm.2.2.2, .slice Av E.length cv], .int .i64 0]) (by simp [results, Tryz.results24, go_sem, k0, k1, k2, k3, k4]) rfl ?_
          rw [← hQ]
          refine retMF_some HR2.out rfl ?_ HG8.out ?_
          · have hsz : ∀ (W : World) p u, (W.setCell p u).heap.size = W.heap.size := fun W p u => by simp [World.setCell]
            simp only [hsz]
            exact ((((HS8.out.setCell _ _ HF8.out).setCell _ _ HF8.out).setCell _ _ HF8.out).setCell _ _ HF8.out).setCell _ _ HF8.out
          · exact ((((HBN.out.setCell hge _).setCell hge _).setCell hge _).setCell hge _).setCell hge _
  · have he : (e1 != 0) = true := by simpa using he1
    have HR1 := Lib.hid (HR.out.trans (if_neg he1))
    clear HR he1 hT0 hL0
    go_enter Tryz.func24, Tryz.ntmps24
    go_wp2_with fail
    refine (cB.out _ HB0.out).mono ?_
    rintro e w1 ⟨A1, c1, rfl, _, _, hb1⟩
    have HB1 := Lib.hid (HB0.out.trans (hb1.mono HB0.out.size))
    have R1 := Lib.hid (Q1.out.keep hb1)
    have k0 := R1.out.cell 0
    have k1 := R1.out.cell 1
    have k2 := R1.out.cell 2
    have k3 := R1.out.cell 3
    have k4 := R1.out.cell 4
    have f0 := R1.out.free 0
    have f1 := R1.out.free 1
    have f2 := R1.out.free 2
    have f3 := R1.out.free 3
    have f4 := R1.out.free 4
    simp at k0 k1 k2 k3 k4
    clear hb1 cB Q0 Q1 HB0
    go_wp2
    refine bodyPost_ret (v := .tuple #[.agg #[.string ⟨#[]⟩, .int .i64 0, .int .i64 0, .int .i64 0, .slice none 0 0], .int .i64 e1]) (by simp [results, Tryz.results24, go_sem, k0, k1, k2, k3, k4]; try rfl) rfl ?_
    rw [← hQ]
    refine retMF_zero HR1.out ?_
    exact ((((HB1.out.setCell hge _).setCell hge _).setCell hge _).setCell hge _).setCell hge _
end Go.Proofs.YtfiilbdkhelhgaaGreatDoor
