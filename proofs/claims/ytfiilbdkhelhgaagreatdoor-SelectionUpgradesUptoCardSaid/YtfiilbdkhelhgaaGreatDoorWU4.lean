/- Walk: the document's Upgrade. -/
import Derived.Test.YtfiilbdkhelhgaaGreatDoorWU2
import Derived.Test.YtfiilbdkhelhgaaGreatDoorWR6
import Derived.Test.YtfiilbdkhelhgaaGreatDoorWL3
import Derived.Test.YtfiilbdkhelhgaaGreatDoorPL7
namespace Go.Proofs.YtfiilbdkhelhgaaGreatDoor
open Go.RowKit Go.Sort

def UpInv (z : Nat) (w0 : World) (B : Nat) (rm : Mod) (nb : Nat) (D : List Mod) (t0 t1 t2 t3 t4 t5 t6 t7 t8 t9 t10 t11 t13 t14 t15 t16 t17 t18 t19 t20 t21 t22 t23 t24 t25 t26 t27 t28 t29 t30 t31 t32 t33 t34 t35 t36 t37 t38 t39 t40 t41 t42 t43 t44 t45 t46 t47 t48 t49 t50 t51 t52 t53 t54 t60 t61 t62 t63 t64 t65 t66 t67 t68 t69 t70 : Value) (L : Array Bool) (a : Act) (W : World) : Prop :=
  ∃ (b0 b1 b2 b3 b4 b5 b6 : Bool) (s12 s55 s56 s57 s58 s59 : Value), L = #[b0, b1, b2, b3, b4, b5, b6] ∧ a = ⟨#[t0, t1, t2, t3, t4, t5, t6, t7, t8, t9, t10, t11, s12, t13, t14, t15, t16, t17, t18, t19, t20, t21, t22, t23, t24, t25, t26, t27, t28, t29, t30, t31, t32, t33, t34, t35, t36, t37, t38, t39, t40, t41, t42, t43, t44, t45, t46, t47, t48, t49, t50, t51, t52, t53, t54, s55, s56, s57, s58, s59, t60, t61, t62, t63, t64, t65, t66, t67, t68, t69, t70], []⟩ ∧ Below z w0 W ∧ (b0 = true → s55 = .pointer (some ⟨B, 0, none⟩)) ∧ (b1 = true → s56 = .agg #[.string ⟨rm.1.toArray⟩, .int .i64 rm.2.1, .int .i64 rm.2.2.1, .int .i64 rm.2.2.2]) ∧ (b2 = true → s57 = t9) ∧ (b3 = true → ∃ (A : Option Addr) (c : Nat), s58 = .slice A nb c ∧ Sl W W.heap.size 4 encM A (msort D) ∧ (∀ a, A = some a → z ≤ a.block) ∧ (b5 = true → ∀ g, s12 = .pointer (some ⟨g, 0, none⟩) → ∀ a, A = some a → a.block ≠ g)) ∧ (b4 = true → ∃ (A : Option Addr) (c : Nat), s59 = .agg #[.string ⟨rm.1.toArray⟩, .int .i64 rm.2.1, .int .i64 rm.2.2.1, .int .i64 rm.2.2.2, .slice A nb c] ∧ Sl W W.heap.size 4 encM A (msort D) ∧ (∀ a, A = some a → z ≤ a.block) ∧ (b5 = true → ∀ g, s12 = .pointer (some ⟨g, 0, none⟩) → ∀ a, A = some a → a.block ≠ g)) ∧ (b5 = true → ∃ g c0 c1 c2 c3 c4, s12 = .pointer (some ⟨g, 0, none⟩) ∧ z ≤ g ∧ Blk W g 33 #[c0, c1, c2, c3, c4]) ∧ (b6 = true → b5 = true ∧ ∃ (g : Nat) (A : Option Addr) (c : Nat), s12 = .pointer (some ⟨g, 0, none⟩) ∧ z ≤ g ∧ Blk W g 33 #[.string ⟨rm.1.toArray⟩, .int .i64 rm.2.1, .int .i64 rm.2.2.1, .int .i64 rm.2.2.2, .slice A nb c] ∧ (∀ a, A = some a → z ≤ a.block) ∧ (∀ a, A = some a → a.block ≠ g) ∧ Sl W W.heap.size 4 encM A (msort D))
theorem upR_len (m : Mod) (l : List Mod) : (upR m l).length ≤ l.length + 1 := by
  unfold upR
  rw [List.length_cons]
  have := List.length_filter_le (fun x : Mod => decide (x.1 ≠ m.1)) l
  omega
theorem row_set {w : World} {base g n cap : Nat} {h : Mod} {rest : List Value} (x : Mod) (hO : w.ownsRow base 30 4 (.slice (some ⟨g, 0, none⟩) n cap) n (encM h ++ rest)) :
    ((((w.setCell ⟨g, 0, none⟩ (.string ⟨x.1.toArray⟩)).setCell ⟨g, 1, none⟩ (.int .i64 x.2.1)).setCell ⟨g, 2, none⟩ (.int .i64 x.2.2.1)).setCell ⟨g, 3, none⟩ (.int .i64 x.2.2.2)).ownsRow base 30 4 (.slice (some ⟨g, 0, none⟩) n cap) n (encM x ++ rest) := by
  have h1 := ((((hO.stored 0 (.string ⟨x.1.toArray⟩)).1.stored 1 (.int .i64 x.2.1)).1.stored 2 (.int .i64 x.2.2.1)).1.stored 3 (.int .i64 x.2.2.2)).1
  exact h1
theorem row_cells {w : World} {base g n cap : Nat} {h : Mod} {rest : List Value} (hO : w.ownsRow base 30 4 (.slice (some ⟨g, 0, none⟩) n cap) n (encM h ++ rest)) (hn : 1 ≤ n) :
    w.cell? ⟨g, 0, none⟩ = some (.string ⟨h.1.toArray⟩) ∧ w.cell? ⟨g, 1, none⟩ = some (.int .i64 h.2.1) ∧ w.cell? ⟨g, 2, none⟩ = some (.int .i64 h.2.2.1) ∧ w.cell? ⟨g, 3, none⟩ = some (.int .i64 h.2.2.2) :=
  ⟨hO.cellAt 0 (by omega), hO.cellAt 1 (by omega), hO.cellAt 2 (by omega), hO.cellAt 3 (by omega)⟩

set_option maxRecDepth 100000 in
set_option maxHeartbeats 4000000 in
theorem rUpgrade_any (A : Option Addr) (c : Nat) (Y : List ManW) (y0 : ManW) (m : Mod) (w : World) (hY : RegOk w w.heap.size A Y) (h0 : ManOk w w.heap.size y0) (hm : okB m) :
    Calls Tryz.prog 22 #[.slice A Y.length c, .agg #[.string ⟨y0.1.1.toArray⟩, .int .i64 y0.1.2.1, .int .i64 y0.1.2.2.1, .int .i64 y0.1.2.2.2, .slice y0.2.1 y0.2.2.2.length y0.2.2.1], .agg #[.string ⟨m.1.toArray⟩, .int .i64 m.2.1, .int .i64 m.2.2.1, .int .i64 m.2.2.2]] w
      (RetMF w (upgradeP (regW Y) y0.1 y0.2.2.2 m)) := by
  obtain ⟨rm, A0, c0, l0⟩ := y0
  simp only
  have HY := Lib.hid hY
  have H0 := Lib.hid h0
  have HM := Lib.hid hm
  have hl0 : l0.length ≤ 100 := h0.2.1
  have hb0 : Below w.heap.size w (((w.alloc (.cells (manA rm A0 l0.length c0) 33)).alloc (.cells (modA m) 30)).alloc (.cells (manA zmod none 0 0) 33)) := (((Below.refl _ _).alloc (Nat.le_refl _) _).alloc (by simp) _).alloc (by simp; omega) _
  have q0 : Blk (((w.alloc (.cells (manA rm A0 l0.length c0) 33)).alloc (.cells (modA m) 30)).alloc (.cells (manA zmod none 0 0) 33)) w.heap.size 33 (manA rm A0 l0.length c0) := ((Blk.new w 33 (manA rm A0 l0.length c0)).keep ((Below.refl _ _).alloc (Nat.le_refl _) _)).keep ((Below.refl _ _).alloc (Nat.le_refl _) _)
  have q1 : Blk (((w.alloc (.cells (manA rm A0 l0.length c0) 33)).alloc (.cells (modA m) 30)).alloc (.cells (manA zmod none 0 0) 33)) (w.heap.size + 1) 30 (modA m) := by
    have h := (Blk.new (w.alloc (.cells (manA rm A0 l0.length c0) 33)) 30 (modA m)).keep ((Below.refl _ _).alloc (Nat.le_refl _) (.cells (manA zmod none 0 0) 33))
    rw [World.size_alloc] at h
    exact h
  have q2 : Blk (((w.alloc (.cells (manA rm A0 l0.length c0) 33)).alloc (.cells (modA m) 30)).alloc (.cells (manA zmod none 0 0) 33)) (w.heap.size + 1 + 1) 33 (manA zmod none 0 0) := by
    have h := Blk.new ((w.alloc (.cells (manA rm A0 l0.length c0) 33)).alloc (.cells (modA m) 30)) 33 (manA zmod none 0 0)
    simp only [World.size_alloc] at h
    exact h
  have HB0 := Lib.hid hb0
  have Q0 := Lib.hid q0
  have Q1 := Lib.hid q1
  have Q2 := Lib.hid q2
  obtain ⟨r, hr⟩ : ∃ r, r = upgradeP (regW Y) rm l0 m := ⟨_, rfl⟩
  rw [← hr]
  unfold upgradeP at hr
  have cM := Lib.hid (fun W (hW : Below w.heap.size w W) => rmay_any A c Y (rm, A0, c0, l0) m W (HY.out.step hW) ((H0.out.keep hW).more hW.size))
  have HL := Lib.hid (fun h => mayP_len (R := regW Y) (root := rm) (m := m) (l := l0) h)
  have HUS := Lib.hid (fun h => upR_sort (R := regW Y) (root := rm) (m := m) (l := l0) h)
  simp only at cM
  generalize mayP (regW Y) rm l0 m = E at cM hr HL HUS
  have HOKD := Lib.hid (show ∀ x ∈ msort (upL m l0), okB x from fun x hx => by
    rcases upL_mem (msort_mem.1 hx) with h | rfl
    · exact H0.out.2.2 x (List.mem_cons_of_mem _ h)
    · exact HM.out)
  have HR := Lib.hid hr
  clear hY h0 hm hb0 q0 q1 q2 hr
  unfold manA modA zmod at HB0 Q0 Q1 Q2
  generalize hQ : RetMF w r = Q
  go_enter Tryz.func22, Tryz.ntmps22
  go_wp2_with fail
  refine (cM.out _ HB0.out).mono ?_
  rintro e w1 ⟨rfl, hb1⟩
  have HB1 := Lib.hid (HB0.out.trans (hb1.mono HB0.out.size))
  have R0 := Lib.hid (Q0.out.keep hb1)
  have R1 := Lib.hid (Q1.out.keep hb1)
  have R2 := Lib.hid (Q2.out.keep hb1)
  clear hb1 cM Q0 Q1 Q2 HB0
  by_cases hE : E = 0
  · have hl64 := HL.out hE
    have HR1 := Lib.hid (HR.out.trans (if_pos hE))
    have HUS1 := Lib.hid (HUS.out hE)
    subst hE
    have hz1 : w.heap.size + 1 + 1 < w1.heap.size := R2.out.lt
    obtain ⟨t0, t1, t2, t3⟩ := modC (m := m) R1.out
    have hO1 := World.ownsRow_lit (base := w1.heap.size) (e := 30) (size := 4) w1 #[.string ⟨m.1.toArray⟩, .int .i64 m.2.1, .int .i64 m.2.2.1, .int .i64 m.2.2.2] 1 (Nat.le_refl _) (by decide) rfl
    have HO1 := Lib.hid hO1
    have HA1 := Lib.hid (show Below w1.heap.size w1 (w1.alloc (.cells #[.string ⟨m.1.toArray⟩, .int .i64 m.2.1, .int .i64 m.2.2.1, .int .i64 m.2.2.2] 30)) from (Below.refl _ _).alloc (Nat.le_refl _) _)
    clear HR HL HUS hO1
    go_wp2
    go_loopw [9, 10] (fun v i wr => ∃ (k n gv cv : Nat), k ≤ l0.length ∧ i = .int .i64 (k : Nat) ∧ v = .slice (some ⟨gv, 0, none⟩) n cv ∧ n ≤ k + 1 ∧ 1 ≤ n ∧ Hid (n = (upR m (l0.take k)).length) ∧ Hid (wr.ownsRow w1.heap.size 30 4 (.slice (some ⟨gv, 0, none⟩) n cv) n ((upR m (l0.take k)).flatMap encM)) ∧ Hid (Below w1.heap.size w1 wr)) (fun _ i _ => l0.length - (intOf i).toNat)
    case atStart => exact ⟨0, 1, w1.heap.size, 1, Nat.zero_le _, rfl, rfl, Nat.le_refl _, Nat.le_refl _, Lib.hid rfl, HO1, HA1⟩
    case round =>
      obtain ⟨wo, hwo⟩ : ∃ wo, wo = wr := ⟨_, rfl⟩
      subst hwo
      obtain ⟨k, n, gv, cv, hk, rfl, rfl, hnk, hn1, HN, HO, HB⟩ := hrel
      obtain ⟨r0, r1, r2, r3, r4⟩ := manC (A := A0) (n := l0.length) (c := c0) (m := rm) (R0.out.keep HB.out)
      have hzo := HB.out.size
      by_cases hlt : k < l0.length
      · have hlt' : (k : Int) < (l0.length : Int) := by omega
        have HSl : Sl wo w.heap.size 4 encM A0 l0 := (H0.out.1.below (HB1.out.trans (HB.out.mono HB1.out.size)))
        obtain ⟨bb, off, hA2, hbB, g0, g1, g2, g3⟩ := HSl.mod hlt
        have HTh := Lib.hid (upH_take (m := m) hlt)
        have HTf := Lib.hid (upF_take (m := m) hlt)
        generalize l0[k] = x at g0 g1 g2 g3 HTh HTf
        have HX := Lib.hid (show Below wo.heap.size wo (wo.alloc (.cells #[.string ⟨x.1.toArray⟩, .int .i64 x.2.1, .int .i64 x.2.2.1, .int .i64 x.2.2.2] 30)) from (Below.refl _ _).alloc (Nat.le_refl _) _)
        have HBx := Lib.hid (HB.out.trans (HX.out.mono HB.out.size))
        have HOx := Lib.hid (own_below2 HO.out HX.out)
        have BX := Lib.hid (Blk.new wo 30 (modA x))
        unfold modA at BX
        have hzx : (wo.alloc (.cells #[.string ⟨x.1.toArray⟩, .int .i64 x.2.1, .int .i64 x.2.2.1, .int .i64 x.2.2.2] 30)).heap.size = wo.heap.size + 1 := World.size_alloc _ _
        have HA2 := Lib.hid hA2
        rw [hA2] at r4
        clear hA2
        obtain ⟨x0, x1, x2, x3⟩ := modC (m := x) BX.out
        obtain ⟨y0, y1, y2, y3⟩ := modC (m := m) ((R1.out.keep HB.out).keep HX.out)
        clear HSl
        by_cases hp : x.1 = m.1
        · have hp1 : (x.1 == m.1) = true := by rw [hp]; exact beq_self_eq_true _
          have cc0 : ∀ W, Calls Tryz.prog 43 #[.agg #[.int .i64 x.2.1, .int .i64 x.2.2.1, .int .i64 x.2.2.2], .agg #[.int .i64 m.2.1, .int .i64 m.2.2.1, .int .i64 m.2.2.2]] W fun e w' => e = .returned (.int .i64 (vcmpV x.2 m.2)) ∧ Below W.heap.size W w' := fun W => refCompare_any _ _ _ _ _ _ W
          have hTf := HTf.out
          have hTh := HTh.out
          rw [if_pos hp, List.append_nil] at hTf
          simp only [hp, true_and] at hTh
          generalize vcmpV x.2 m.2 = d at cc0 hTh
          have HTf2 := Lib.hid hTf
          have HTh2 := Lib.hid hTh
          have cm := Lib.hid cc0
          have HP := Lib.hid hp
          clear cc0 hTf hTh HTh HTf hp
          go_wp2_with fail
          refine (cm.out _).mono ?_
          rintro e w4 ⟨rfl, hb4⟩
          have HB4 := Lib.hid (HBx.out.trans (hb4.mono HBx.out.size))
          have HO4 := Lib.hid (own_below2 HOx.out hb4)
          have BX4 := Lib.hid (BX.out.keep hb4)
          clear hb4 cm x0 x1 x2 x3 y0 y1 y2 y3
          by_cases hd : 0 < d
          · have HU := Lib.hid (show upR m (l0.take (k + 1)) = x :: (l0.take k).filter (fun x => decide (x.1 ≠ m.1)) from by unfold upR; rw [HTh2.out, HTf2.out, if_pos hd])
            have hO4 : w4.ownsRow w1.heap.size 30 4 (.slice (some ⟨gv, 0, none⟩) n cv) n (encM (upH m (l0.take k)) ++ ((l0.take k).filter (fun x => decide (x.1 ≠ m.1))).flatMap encM) := HO4.out
            obtain ⟨k0, k1, k2, k3⟩ := row_cells hO4 hn1
            have f0 := hO4.frozenAt 0
            have f1 := hO4.frozenAt 1
            have f2 := hO4.frozenAt 2
            have f3 := hO4.frozenAt 3
            have HS4 := Lib.hid (row_set x hO4)
            have hgv := (hO4.lt gv rfl).1
            obtain ⟨x0, x1, x2, x3⟩ := modC (m := x) BX4.out
            have hn0 : (0 : Int) < (n : Int) := by omega
            have HLn := Lib.hid (show n = (upR m (l0.take (k + 1))).length from by rw [HN.out, HU.out]; rfl)
            clear hO4
            go_wp2
            go_roundw
            case rel => exact ⟨k + 1, n, gv, cv, by omega, by go_num, rfl, by omega, hn1, HLn, Lib.hid (by rw [HU.out]; exact HS4.out), Lib.hid ((((HB4.out.setCell (p := ⟨gv, 0, none⟩) hgv _).setCell (p := ⟨gv, 1, none⟩) hgv _).setCell (p := ⟨gv, 2, none⟩) hgv _).setCell (p := ⟨gv, 3, none⟩) hgv _)⟩
            case measure => simp [intOf]; omega
          · have HU := Lib.hid (show upR m (l0.take (k + 1)) = upR m (l0.take k) from by unfold upR; rw [HTh2.out, HTf2.out, if_neg hd])
            go_wp2
            go_roundw
            case rel => exact ⟨k + 1, n, gv, cv, by omega, by go_num, rfl, by omega, hn1, Lib.hid (by rw [HU.out]; exact HN.out), Lib.hid (by rw [HU.out]; exact HO4.out), HB4⟩
            case measure => simp [intOf]; omega
        · have hp1 : (x.1 == m.1) = false := beq_eq_false_iff_ne.2 hp
          have HU := Lib.hid (show upR m (l0.take (k + 1)) = upR m (l0.take k) ++ [x] from by unfold upR; rw [HTh.out, HTf.out, if_neg hp, if_neg (fun h => hp h.1)]; rfl)
          obtain ⟨A8, c8, w8, hap, hO8, hb8⟩ := row_app (m := x) HOx.out HBx.out.size (by omega)
          rw [hzx] at hap
          obtain ⟨g8, cap8, e8, _, _⟩ := hO8.form (by omega)
          have e9 : A8 = some ⟨g8, 0, none⟩ := by injection e8
          subst e9
          have HO8 := Lib.hid hO8
          have HB8 := Lib.hid (HBx.out.trans hb8)
          clear hO8 hb8 hp e8 HTh HTf
          go_wp2_with (at_builtin; refine wpList_app1 rfl _ _ _ _ rfl _ _ rfl rfl hap ?_)
          go_roundw
          case rel => exact ⟨k + 1, n + 1, g8, c8, by omega, by go_num, rfl, by omega, by omega, Lib.hid (by rw [HU.out, List.length_append, ← HN.out]; rfl), Lib.hid (by rw [HU.out]; exact HO8.out), HB8⟩
          case measure => simp [intOf]; omega
      · obtain rfl : k = l0.length := by omega
        rw [List.take_of_length_le (Nat.le_refl _)] at HN HO
        generalize upR m l0 = D at HN HO HUS1
        obtain ⟨w9, hw9⟩ : ∃ w9, w9 = wo := ⟨_, rfl⟩
        subst hw9
        obtain ⟨nb, hnb⟩ : ∃ nb, nb = n := ⟨_, rfl⟩
        subst hnb
        have hsl := (Acc.slAny (.inl HO.out) encM_len (by decide) : Sl w9 w9.heap.size 4 encM (some ⟨gv, 0, none⟩) D)
        have HSD := Lib.hid hsl
        have HRS := Lib.hid (R2.out.keep HB.out)
        have HNB := Lib.hid HN.out
        have HNE := Lib.hid (show msort D ≠ [] from fun h => by
          have h1 := congrArg List.length h
          rw [msort_len] at h1
          have h2 := HNB.out
          rw [List.length_nil] at h1
          omega)
        have cSo := Lib.hid (fun W (hS : Sl W W.heap.size 4 encM (some ⟨gv, 0, none⟩) D) => show Calls Tryz.prog 35 #[.slice (some ⟨gv, 0, none⟩) nb cv] W fun e w' => ∃ A' c', e = .returned (.slice A' nb c') ∧ (∀ a, A' = some a → W.heap.size ≤ a.block) ∧ Sl w' w'.heap.size 4 encM A' (msort D) ∧ Below W.heap.size W w' by
          have h := refSorted_far (some ⟨gv, 0, none⟩) cv D W hS (by rw [← HNB.out]; omega)
          rw [← HNB.out] at h
          exact h)
        obtain ⟨z0, z1, z2, z3, z4⟩ := manC (A := A0) (n := l0.length) (c := c0) (m := rm) (R0.out.keep HB.out)
        have HBz := Lib.hid HB.out
        have hzw9 : w.heap.size < w9.heap.size := by omega
        clear hsl r0 r1 r2 r3 r4
        go_upto_region 13 with fail
        apply wp_region_each (by kernel_rfl) (UpInv w9.heap.size w9 w.heap.size rm nb D _ _ _ _ _ _ _ _ _ _ _ _ _ _ _ _ _ _ _ _ _ _ _ _ _ _ _ _ _ _ _ _ _ _ _ _ _ _ _ _ _ _ _ _ _ _ _ _ _ _ _ _ _ _ _ _ _ _ _ _ _ _ _ _ _) ?hsz ?h0 ?step (by kernel_rfl) ?fin
        case h0 =>
          exact ⟨false, false, false, false, false, false, false, _, _, _, _, _, _, rfl, rfl, (Below.refl _ _).drew, fun h => absurd h (by decide), fun h => absurd h (by decide), fun h => absurd h (by decide), fun h => absurd h (by decide), fun h => absurd h (by decide), fun h => absurd h (by decide), fun h => absurd h (by decide)⟩
        case hsz =>
          rintro L a w ⟨b0, b1, b2, b3, b4, b5, b6, s12, s55, s56, s57, s58, s59, rfl, _⟩
          rfl
        case step =>
          rintro i o ho L a W hn hd ⟨b0, b1, b2, b3, b4, b5, b6, s12, s55, s56, s57, s58, s59, rfl, rfl, hB, h0, h1, h2, h3, h4, h5, h6⟩
          have hBz := hB.size
          match i, ho with
          | 0, ho =>
            simp at ho; subst ho
            simp only [Region.wanted, if_true]
            left
            go_simp
            exact ⟨true, b1, b2, b3, b4, b5, b6, _, _, _, _, _, _, rfl, rfl, hB, fun _ => rfl, (by first | exact h1 | exact fun _ => rfl), (by first | exact h2 | exact fun _ => rfl), (by first | exact h3 | exact fun _ => rfl), (by first | exact h4 | exact fun _ => rfl), (by first | exact h5 | exact fun _ => rfl), (by first | exact h6 | exact fun _ => rfl)⟩
          | 1, ho =>
            simp at ho; subst ho
            have e0 : b0 = true := by simp [Region.binds] at hd; simp [hd]
            subst e0
            obtain rfl := h0 rfl
            have hx0 := hB.cell (p := ⟨w.heap.size, 0, none⟩) hzw9
            have hx1 := hB.cell (p := ⟨w.heap.size, 1, none⟩) hzw9
            have hx2 := hB.cell (p := ⟨w.heap.size, 2, none⟩) hzw9
            have hx3 := hB.cell (p := ⟨w.heap.size, 3, none⟩) hzw9
            rw [z0] at hx0
            rw [z1] at hx1
            rw [z2] at hx2
            rw [z3] at hx3
            simp only [Region.wanted, if_true]
            left
            go_simp
            exact ⟨true, true, b2, b3, b4, b5, b6, _, _, _, _, _, _, rfl, rfl, hB, (by first | exact h0 | exact fun _ => rfl), fun _ => rfl, (by first | exact h2 | exact fun _ => rfl), (by first | exact h3 | exact fun _ => rfl), (by first | exact h4 | exact fun _ => rfl), (by first | exact h5 | exact fun _ => rfl), (by first | exact h6 | exact fun _ => rfl)⟩
          | 2, ho =>
            simp at ho; subst ho
            simp only [Region.wanted, if_true]
            left
            go_simp
            exact ⟨b0, b1, true, b3, b4, b5, b6, _, _, _, _, _, _, rfl, rfl, hB, (by first | exact h0 | exact fun _ => rfl), (by first | exact h1 | exact fun _ => rfl), fun _ => rfl, (by first | exact h3 | exact fun _ => rfl), (by first | exact h4 | exact fun _ => rfl), (by first | exact h5 | exact fun _ => rfl), (by first | exact h6 | exact fun _ => rfl)⟩
          | 3, ho =>
            simp at ho; subst ho
            have e2 : b2 = true := by simp [Region.binds] at hd; simp [hd]
            subst e2
            obtain rfl := h2 rfl
            simp only [Region.wanted, if_true]
            left
            go_simp
            refine (cSo.out W ((HSD.out.below hB).more hB.size)).mono ?_
            rintro e W2 ⟨A, c, rfl, hF, hS, hb2⟩
            have hF1 := hF
            exact ⟨b0, b1, true, true, b4, b5, b6, _, _, _, _, _, _, rfl, rfl, hB.trans ((hb2).mono hBz), (by first | exact h0 | exact fun _ => rfl), (by first | exact h1 | exact fun _ => rfl), (by first | exact h2 | exact fun _ => rfl), fun _ => ⟨A, c, rfl, hS, fun a ha => Nat.le_trans hBz (hF1 a ha), fun hb6 g hg a ha => by have h7 := h5 hb6; obtain ⟨g7, c0, c1, c2, c3, c4, e7, _, h8⟩ := h7; have h9 := h8.lt; have h10 := hF1 a ha; have h11 := ptr_inj (e7.symm.trans hg); omega⟩, (by first | exact fun hh => (match (h4 hh) with | ⟨A, c, e, h1, h0, h2⟩ => ⟨A, c, e, (h1.below hb2).more (hb2).size, h0, h2⟩) | exact fun _ => rfl), (by first | exact fun hh => (match (h5 hh) with | ⟨g, c0, c1, c2, c3, c4, e, h1, h2⟩ => ⟨g, c0, c1, c2, c3, c4, e, h1, h2.keep hb2⟩) | exact fun _ => rfl), (by first | exact fun hh => (match (h6 hh) with | ⟨q, g, A, c, e, hz, h1, h0, h3, h2⟩ => ⟨q, g, A, c, e, hz, h1.keep hb2, h0, h3, (h2.below hb2).more (hb2).size⟩) | exact fun _ => rfl)⟩
          | 4, ho =>
            simp at ho; subst ho
            have e1 : b1 = true := by simp [Region.binds] at hd; simp [hd]
            have e3 : b3 = true := by simp [Region.binds] at hd; simp [hd]
            subst e1
            subst e3
            obtain rfl := h1 rfl
            obtain ⟨A, c, rfl, hS, hlo, hF⟩ := h3 rfl
            simp only [Region.wanted, if_true]
            left
            go_simp
            exact ⟨b0, true, b2, true, true, b5, b6, _, _, _, _, _, _, rfl, rfl, hB, (by first | exact h0 | exact fun _ => rfl), (by first | exact h1 | exact fun _ => rfl), (by first | exact h2 | exact fun _ => rfl), (by first | exact h3 | exact fun _ => rfl), fun _ => ⟨A, c, rfl, hS, hlo, hF⟩, (by first | exact h5 | exact fun _ => rfl), (by first | exact h6 | exact fun _ => rfl)⟩
          | 5, ho =>
            simp at ho; subst ho
            simp at hn
            simp only [Region.wanted, if_true]
            left
            go_simp
            exact ⟨b0, b1, b2, b3, b4, true, b6, _, _, _, _, _, _, rfl, rfl, hB.trans ((((Below.refl W.heap.size W).alloc (Nat.le_refl _) (.cells manZ 33))).mono hBz), (by first | exact h0 | exact fun _ => rfl), (by first | exact h1 | exact fun _ => rfl), (by first | exact h2 | exact fun _ => rfl), fun hh => (match (h3 hh) with | ⟨A, c, e, h1, h0, _⟩ => ⟨A, c, e, (h1.below ((Below.refl W.heap.size W).alloc (Nat.le_refl _) (.cells manZ 33))).more (((Below.refl W.heap.size W).alloc (Nat.le_refl _) (.cells manZ 33))).size, h0, fun _ g hg a ha => by have h5 := sl_lt h1 HNE.out a ha; have h6 := ptr_inj hg; omega⟩), fun hh => (match (h4 hh) with | ⟨A, c, e, h1, h0, _⟩ => ⟨A, c, e, (h1.below ((Below.refl W.heap.size W).alloc (Nat.le_refl _) (.cells manZ 33))).more (((Below.refl W.heap.size W).alloc (Nat.le_refl _) (.cells manZ 33))).size, h0, fun _ g hg a ha => by have h5 := sl_lt h1 HNE.out a ha; have h6 := ptr_inj hg; omega⟩), fun _ => ⟨_, _, _, _, _, _, rfl, hBz, Blk.new W 33 manZ⟩, fun hh => absurd (h6 hh).1 (by rw [hn]; decide)⟩
          | 6, ho =>
            simp at ho; subst ho
            have e4 : b4 = true := by simp [Region.binds] at hd; simp [hd]
            have e5 : b5 = true := by simp [Region.binds] at hd; simp [hd]
            subst e4
            subst e5
            obtain ⟨A, c, rfl, hS, hlo, hF⟩ := h4 rfl
            obtain ⟨g7, c0, c1, c2, c3, c4, rfl, hz7, p8⟩ := h5 rfl
            have k0 := p8.cell 0
            have k1 := p8.cell 1
            have k2 := p8.cell 2
            have k3 := p8.cell 3
            have k4 := p8.cell 4
            have f0 := p8.free 0
            have f1 := p8.free 1
            have f2 := p8.free 2
            have f3 := p8.free 3
            have f4 := p8.free 4
            simp at k0 k1 k2 k3 k4
            have hF2 := hF rfl g7 rfl
            simp only [Region.wanted, if_true]
            left
            go_simp
            exact ⟨b0, b1, b2, b3, true, true, true, _, _, _, _, _, _, rfl, rfl, ((((hB.setCell (p := ⟨g7, 0, none⟩) hz7 _).setCell (p := ⟨g7, 1, none⟩) hz7 _).setCell (p := ⟨g7, 2, none⟩) hz7 _).setCell (p := ⟨g7, 3, none⟩) hz7 _).setCell (p := ⟨g7, 4, none⟩) hz7 _, (by first | exact h0 | exact fun _ => rfl), (by first | exact h1 | exact fun _ => rfl), (by first | exact h2 | exact fun _ => rfl), fun hh => (match (h3 hh) with | ⟨A, c, e, h1, h0, h2⟩ => ⟨A, c, e, sl_set5 h1 (h2 rfl g7 rfl) _ _ _ _ _, h0, h2⟩), fun _ => ⟨A, c, rfl, sl_set5 hS hF2 _ _ _ _ _, hlo, hF⟩, fun _ => ⟨g7, _, _, _, _, _, rfl, hz7, ((((p8.set_ 0 _).set_ 1 _).set_ 2 _).set_ 3 _).set_ 4 _⟩, fun _ => ⟨rfl, g7, A, c, rfl, hz7, ((((p8.set_ 0 _).set_ 1 _).set_ 2 _).set_ 3 _).set_ 4 _, hlo, hF2, sl_set5 hS hF2 _ _ _ _ _⟩⟩
          | i + 7, ho => simp at ho
        case fin =>
          rintro L a wf hr ⟨b0, b1, b2, b3, b4, b5, b6, s12, s55, s56, s57, s58, s59, hL, rfl, hB, h0, h1, h2, h3, h4, h5, h6⟩
          subst hL
          obtain rfl : b6 = true := hr 6 (by decide)
          obtain ⟨_, g7, A7, c7, e7, hz7, hb7, hlo7, hne7, hs7⟩ := h6 rfl
          clear hr h0 h1 h2 h3 h4 h5 h6
          have HBW := Lib.hid (HB1.out.trans ((HBz.out.trans (hB.mono hzo)).mono HB1.out.size))
          have U2 := Lib.hid (HRS.out.keep hB)
          have hzB := hB.size
          subst e7
          have HB7 := Lib.hid hb7
          have HS7 := Lib.hid hs7
          have HLO := Lib.hid (show ∀ a, A7 = some a → w.heap.size + 1 + 1 + 1 ≤ a.block from fun a ha => by have h1 := hlo7 a ha; omega)
          have hml : nb = (msort D).length := by rw [msort_len]; exact HNB.out
          rw [HUS1.out] at hml
          have HS8 := Lib.hid (show Sl wf wf.heap.size 4 encM A7 (msort (upL m l0)) from by rw [← HUS1.out]; exact HS7.out)
          generalize msort (upL m l0) = DD at hml HS8 HR1 HOKD
          subst hml
          have cB0 := fun W (hW : Below wf.heap.size wf W) => rBuildList_any A c Y (rm, A7, c7, DD) W (HY.out.step (HBW.out.trans (hW.mono HBW.out.size))) ⟨(HS8.out.below hW).more hW.size, by show DD.length ≤ 100; omega, fun x hx => by
            rcases List.mem_cons.1 hx with rfl | hx
            · exact H0.out.2.2 _ (by simp)
            · exact HOKD.out x hx⟩
          simp only at cB0
          generalize buildP (regW Y) rm DD = b at cB0 HR1
          obtain ⟨bl, E2⟩ := b
          unfold RetB at cB0
          simp only at cB0 HR1
          have cB := Lib.hid (cB0 _ (Below.refl _ _))
          obtain ⟨s0, s1, s2, s3, s4⟩ := manC (A := A7) (n := DD.length) (c := c7) (m := rm) HB7.out
          clear cB0 hB hb7 hs7 HS7 HUS1 HNE HSD HNB cSo z0 z1 z2 z3 z4
          go_wp2_with fail
          refine cB.out.mono ?_
          rintro e w3 ⟨A3, c3, rfl, _, _, hb3⟩
          have HB4 := Lib.hid (HBW.out.trans (hb3.mono HBW.out.size))
          have T2 := Lib.hid (U2.out.keep hb3)
          have T3 := Lib.hid (HB7.out.keep hb3)
          have HS3 := Lib.hid ((HS8.out.below hb3).more hb3.size)
          clear hb3 cB s0 s1 s2 s3 s4
          have k0 := T2.out.cell 0
          have k1 := T2.out.cell 1
          have k2 := T2.out.cell 2
          have k3 := T2.out.cell 3
          have k4 := T2.out.cell 4
          have f0 := T2.out.free 0
          have f1 := T2.out.free 1
          have f2 := T2.out.free 2
          have f3 := T2.out.free 3
          have f4 := T2.out.free 4
          simp at k0 k1 k2 k3 k4
          have hge : w.heap.size ≤ w.heap.size + 1 + 1 := by omega
          by_cases hE2 : E2 = 0
          · have HR2 := Lib.hid (HR1.out.trans (if_pos hE2))
            subst hE2
            clear HR1
            obtain ⟨s0, s1, s2, s3, s4⟩ := manC (A := A7) (n := DD.length) (c := c7) (m := rm) T3.out
            have HNQ := Lib.hid (show ∀ a, A7 = some a → a.block ≠ w.heap.size + 1 + 1 from fun a ha => by have := HLO.out a ha; omega)
            have HGE := Lib.hid (show ∀ a, A7 = some a → w.heap.size ≤ a.block from fun a ha => by have := HLO.out a ha; omega)
            go_wp2
            refine bodyPost_ret (v := .tuple #[.agg #[.string ⟨rm.1.toArray⟩, .int .i64 rm.2.1, .int .i64 rm.2.2.1, .int .i64 rm.2.2.2, .slice A7 DD.length c7], .int .i64 0]) (by simp [results, Tryz.results22, go_sem, k0, k1, k2, k3, k4]) rfl ?_
            rw [← hQ]
            refine retMF_some HR2.out rfl ?_ (.inr HGE.out) ?_
            · have hsz : ∀ (W : World) p u, (W.setCell p u).heap.size = W.heap.size := fun W p u => by simp [World.setCell]
              simp only [hsz]
              exact ((((HS3.out.setCell _ _ (.inr HNQ.out)).setCell _ _ (.inr HNQ.out)).setCell _ _ (.inr HNQ.out)).setCell _ _ (.inr HNQ.out)).setCell _ _ (.inr HNQ.out)
            · exact ((((HB4.out.setCell hge _).setCell hge _).setCell hge _).setCell hge _).setCell hge _
          · have he : (E2 != 0) = true := by simpa using hE2
            have HR2 := Lib.hid (HR1.out.trans (if_neg hE2))
            clear HR1 hE2
            go_wp2
            refine bodyPost_ret (v := .tuple #[.agg #[.string ⟨#[]⟩, .int .i64 0, .int .i64 0, .int .i64 0, .slice none 0 0], .int .i64 E2]) (by simp [results, Tryz.results22, go_sem, k0, k1, k2, k3, k4]; try rfl) rfl ?_
            rw [← hQ]
            refine retMF_zero HR2.out ?_
            exact ((((HB4.out.setCell hge _).setCell hge _).setCell hge _).setCell hge _).setCell hge _
  · have he : (E != 0) = true := by simpa using hE
    have HR1 := Lib.hid (HR.out.trans (if_neg hE))
    clear HR hE HL
    have k0 := R2.out.cell 0
    have k1 := R2.out.cell 1
    have k2 := R2.out.cell 2
    have k3 := R2.out.cell 3
    have k4 := R2.out.cell 4
    have f0 := R2.out.free 0
    have f1 := R2.out.free 1
    have f2 := R2.out.free 2
    have f3 := R2.out.free 3
    have f4 := R2.out.free 4
    simp at k0 k1 k2 k3 k4
    go_wp2
    refine bodyPost_ret (v := .tuple #[.agg #[.string ⟨#[]⟩, .int .i64 0, .int .i64 0, .int .i64 0, .slice none 0 0], .int .i64 E]) (by simp [results, Tryz.results22, go_sem, k0, k1, k2, k3, k4]; try rfl) rfl ?_
    rw [← hQ]
    refine retMF_zero HR1.out ?_
    have hge : w.heap.size ≤ w.heap.size + 1 + 1 := by omega
    exact ((((HB1.out.setCell hge _).setCell hge _).setCell hge _).setCell hge _).setCell hge _
end Go.Proofs.YtfiilbdkhelhgaaGreatDoor
