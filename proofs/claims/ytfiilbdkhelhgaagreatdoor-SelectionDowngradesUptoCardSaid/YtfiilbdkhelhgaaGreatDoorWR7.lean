/- Walk: the document's Downgrade. -/
import Derived.Test.YtfiilbdkhelhgaaGreatDoorWR6
import Derived.Test.YtfiilbdkhelhgaaGreatDoorWL3
namespace Go.Proofs.YtfiilbdkhelhgaaGreatDoor
open Go.RowKit Go.Sort

theorem down_fold (R : Regy) (rp : List UInt8) (m x : Mod) : ∀ (L : List Mod) (b : Option Mod), (∀ u, b = some u → u.1 = x.1) → L.foldl (dstep R rp m x) b = (L.filter (fitP R rp m x)).foldl (gstep x.1) b
  | [], _, _ => rfl
  | z :: L, b, hb => by
    rw [List.foldl_cons, List.filter_cons]
    by_cases hf : fitP R rp m x z = true
    · have hz : z.1 = x.1 := by
        unfold fitP at hf
        simp only [Bool.and_eq_true, decide_eq_true_eq] at hf
        exact hf.1
      rw [if_pos hf, List.foldl_cons]
      have e : dstep R rp m x b z = gstep x.1 b z := by
        unfold dstep gstep
        rw [if_pos hf, if_pos hz]
        unfold takeM
        cases b with
        | none => rfl
        | some u =>
          have hu := hb u rfl
          have e1 : mcmp z u = vcmpV z.2 u.2 := by
            have h := vcmpV_mcmp x.1 z.2 u.2
            have e2 : z = (x.1, z.2) := Prod.ext hz rfl
            have e3 : u = (x.1, u.2) := Prod.ext hu rfl
            rw [← e2, ← e3] at h
            exact h
          have e2 := vcmpV_anti u.2 z.2
          simp only [e1]
          by_cases h : 0 < vcmpV z.2 u.2
          · rw [if_pos h, if_pos (by omega)]
          · rw [if_neg h, if_neg (by omega)]
      rw [e]
      refine down_fold R rp m x L _ fun u hu => ?_
      unfold gstep at hu
      rw [if_pos hz] at hu
      cases b with
      | none => rw [← Option.some.inj hu]; exact hz
      | some v =>
        simp only at hu
        split at hu
        · rw [← Option.some.inj hu]; exact hz
        · rw [← Option.some.inj hu]; exact hb v rfl
    · rw [if_neg hf]
      unfold dstep
      rw [if_neg hf]
      exact down_fold R rp m x L b hb
theorem downB_eq (R : Regy) (rp : List UInt8) (m x : Mod) : downB R rp m x = greatestP ((R.map (·.1)).filter (fitP R rp m x)) x.1 := down_fold R rp m x _ none (fun _ h => by cases h)
def RDInv (z : Nat) (w0 : World) (B : Nat) (rm : Mod) (nb : Nat) (D : List Mod) (Av : Option Addr) (t0 t1 t2 t3 t4 t5 t6 t8 t9 t10 t11 t12 t13 t14 t15 t16 t17 t18 t19 t20 t21 t22 t23 t24 t25 t26 t27 t28 t29 t30 t31 t32 t33 t34 t35 t36 t37 t38 t39 t40 t41 t42 t43 t44 t45 t46 t47 t48 t49 t50 t51 t52 t53 t54 t55 t56 t57 t58 t59 t60 t61 t62 t63 t64 t65 t66 t67 t68 t69 t70 t71 t72 t73 t74 t75 t76 t77 t78 t79 t80 t81 t82 t83 t84 t85 : Value) (L : Array Bool) (a : Act) (W : World) : Prop :=
  ∃ (b0 b1 b2 b3 b4 b5 b6 : Bool) (s7 s86 s87 s88 s89 s90 : Value), L = #[b0, b1, b2, b3, b4, b5, b6] ∧ a = ⟨#[t0, t1, t2, t3, t4, t5, t6, s7, t8, t9, t10, t11, t12, t13, t14, t15, t16, t17, t18, t19, t20, t21, t22, t23, t24, t25, t26, t27, t28, t29, t30, t31, t32, t33, t34, t35, t36, t37, t38, t39, t40, t41, t42, t43, t44, t45, t46, t47, t48, t49, t50, t51, t52, t53, t54, t55, t56, t57, t58, t59, t60, t61, t62, t63, t64, t65, t66, t67, t68, t69, t70, t71, t72, t73, t74, t75, t76, t77, t78, t79, t80, t81, t82, t83, t84, t85, s86, s87, s88, s89, s90], []⟩ ∧ Below z w0 W ∧ (b0 = true → s86 = .pointer (some ⟨B, 0, none⟩)) ∧ (b1 = true → s87 = .agg #[.string ⟨rm.1.toArray⟩, .int .i64 rm.2.1, .int .i64 rm.2.2.1, .int .i64 rm.2.2.2]) ∧ (b2 = true → s88 = t9) ∧ (b3 = true → ∃ (A : Option Addr) (c : Nat), s89 = .slice A nb c ∧ (∀ a, A = some a → z < a.block) ∧ Sl W W.heap.size 4 encM A (msort D)) ∧ (b4 = true → ∃ (A : Option Addr) (c : Nat), s90 = .agg #[.string ⟨rm.1.toArray⟩, .int .i64 rm.2.1, .int .i64 rm.2.2.1, .int .i64 rm.2.2.2, .slice A nb c] ∧ (∀ a, A = some a → z < a.block) ∧ Sl W W.heap.size 4 encM A (msort D)) ∧ (b5 = true → b3 = true ∧ ∃ (A : Option Addr) (c : Nat), Blk W (B + 2) 33 #[.string ⟨rm.1.toArray⟩, .int .i64 rm.2.1, .int .i64 rm.2.2.1, .int .i64 rm.2.2.2, .slice A nb c] ∧ (∀ a, A = some a → z < a.block) ∧ Sl W W.heap.size 4 encM A (msort D)) ∧ (b6 = true → s7 = .int .i64 0) ∧ (b5 = false → Sl W W.heap.size 4 encM Av D ∧ Blk W (B + 2) 33 (manA zmod none 0 0))

set_option maxRecDepth 100000 in
set_option maxHeartbeats 4000000 in
theorem rDowngrade_any (A : Option Addr) (c : Nat) (Y : List ManW) (y0 : ManW) (m : Mod) (w : World) (hY : RegOk w w.heap.size A Y) (h0 : ManOk w w.heap.size y0) :
    Calls Tryz.prog 17 #[.slice A Y.length c, .agg #[.string ⟨y0.1.1.toArray⟩, .int .i64 y0.1.2.1, .int .i64 y0.1.2.2.1, .int .i64 y0.1.2.2.2, .slice y0.2.1 y0.2.2.2.length y0.2.2.1], .agg #[.string ⟨m.1.toArray⟩, .int .i64 m.2.1, .int .i64 m.2.2.1, .int .i64 m.2.2.2]] w
      (RetMF w (downP (regW Y) y0.1 y0.2.2.2 m)) := by
  obtain ⟨rm, A0, c0, l0⟩ := y0
  simp only
  have HY := Lib.hid hY
  have H0 := Lib.hid h0
  have hYl := hY.2.2
  have hl0 : l0.length ≤ 100 := h0.2.1
  have hb0 : Below w.heap.size w (((w.alloc (.cells (manA rm A0 l0.length c0) 33)).alloc (.cells (modA m) 30)).alloc (.cells (manA zmod none 0 0) 33)) := (((Below.refl _ _).alloc (Nat.le_refl _) _).alloc (by simp) _).alloc (by simp; omega) _
  have q0 : Blk (((w.alloc (.cells (manA rm A0 l0.length c0) 33)).alloc (.cells (modA m) 30)).alloc (.cells (manA zmod none 0 0) 33)) w.heap.size 33 (manA rm A0 l0.length c0) := ((Blk.new w 33 (manA rm A0 l0.length c0)).keep ((Below.refl _ _).alloc (Nat.le_refl _) _)).keep ((Below.refl _ _).alloc (Nat.le_refl _) _)
  have q1 : Blk (((w.alloc (.cells (manA rm A0 l0.length c0) 33)).alloc (.cells (modA m) 30)).alloc (.cells (manA zmod none 0 0) 33)) (w.heap.size + 1) 30 (modA m) := by
    have h := (Blk.new (w.alloc (.cells (manA rm A0 l0.length c0) 33)) 30 (modA m)).keep ((Below.refl _ _).alloc (Nat.le_refl _) (.cells (manA zmod none 0 0) 33))
    rw [World.size_alloc] at h
    exact h
  have q2 : Blk (((w.alloc (.cells (manA rm A0 l0.length c0) 33)).alloc (.cells (modA m) 30)).alloc (.cells (manA zmod none 0 0) 33)) (w.heap.size + 2) 33 (manA zmod none 0 0) := by
    have h := Blk.new ((w.alloc (.cells (manA rm A0 l0.length c0) 33)).alloc (.cells (modA m) 30)) 33 (manA zmod none 0 0)
    simp only [World.size_alloc] at h
    exact h
  have hz0 : w.heap.size + 3 ≤ (((w.alloc (.cells (manA rm A0 l0.length c0) 33)).alloc (.cells (modA m) 30)).alloc (.cells (manA zmod none 0 0) 33)).heap.size := by simp
  have HB0 := Lib.hid hb0
  have Q0 := Lib.hid q0
  have Q1 := Lib.hid q1
  have Q2 := Lib.hid q2
  obtain ⟨r, hr⟩ : ∃ r, r = downP (regW Y) rm l0 m := ⟨_, rfl⟩
  rw [← hr]
  unfold downP at hr
  have HR := Lib.hid hr
  have cM := Lib.hid (fun W (hW : Below w.heap.size w W) => rmay_any A c Y (rm, A0, c0, l0) m W (HY.out.step hW) ((H0.out.keep hW).more hW.size))
  simp only at cM
  generalize mayP (regW Y) rm l0 m = E at cM HR
  clear hY h0 hr hb0 q0 q1 q2
  unfold manA modA zmod at HB0 Q0 Q1 Q2 hz0
  generalize hQ : RetMF w r = Q
  go_enter Tryz.func17, Tryz.ntmps17
  go_wp2_with fail
  refine (cM.out _ HB0.out).mono ?_
  rintro e w1 ⟨rfl, hb1⟩
  have hz1 : w.heap.size + 3 ≤ w1.heap.size := Nat.le_trans hz0 hb1.size
  have HB1 := Lib.hid (HB0.out.trans (hb1.mono HB0.out.size))
  have P0 := Lib.hid (Q0.out.keep hb1)
  have P1 := Lib.hid (Q1.out.keep hb1)
  have P2 := Lib.hid (Q2.out.keep hb1)
  clear hb1 cM Q0 Q1 Q2 HB0 hz0
  by_cases hE : E = 0
  · subst hE
    have HR1 := Lib.hid (HR.out.trans (if_pos rfl))
    clear HR
    have hml : ((regW Y).map (·.1)).length = Y.length := by simp [regW]
    have cLw := Lib.hid (fun (y : Mod) W (hW : Below w1.heap.size w1 W) => rlow_any A c Y y m rm.1 W (HY.out.step (HB1.out.trans (hW.mono HB1.out.size))))
    have cGr := Lib.hid (fun (Af : Option Addr) (cf nf : Nat) (F : List Mod) (p : List UInt8) (hn : nf = F.length) (hn2 : nf ≤ 1000000) W (hS : Sl W W.heap.size 4 encM Af F) => show Calls Tryz.prog 34 #[.slice Af nf cf, .string ⟨p.toArray⟩] W (RetG W (greatestP F p)) by
      subst hn
      exact greatest_any Af cf F p W hS (by omega))
    go_wp2
    go_loopw [9, 10] (fun v i wr => ∃ (k n : Nat) (Av : Option Addr) (cv : Nat), i = .int .i64 (k : Nat) ∧ v = .slice Av n cv ∧ k ≤ l0.length ∧ n ≤ k ∧ Hid (n = (downL (regW Y) rm.1 m (l0.take k)).length) ∧ Hid (wr.ownsRow w1.heap.size 30 4 (.slice Av n cv) n ((downL (regW Y) rm.1 m (l0.take k)).flatMap encM)) ∧ Hid (Below w1.heap.size w1 wr)) (fun _ i _ => l0.length - (intOf i).toNat)
    case atStart => exact ⟨0, 0, none, 0, rfl, rfl, Nat.zero_le _, Nat.le_refl _, Lib.hid rfl, Lib.hid (World.ownsRow_nil _ _ _ _), Lib.hid (Below.refl _ _)⟩
    case round =>
      obtain ⟨wo, hwo⟩ : ∃ wo, wo = wr := ⟨_, rfl⟩
      subst hwo
      obtain ⟨k, n, Av, cv, rfl, rfl, hk, hnk, HN, HO, HB⟩ := hrel
      obtain ⟨r0, r1, r2, r3, r4⟩ := manC (P0.out.keep HB.out)
      have hzo := HB.out.size
      by_cases hlt : k < l0.length
      · have hlt' : (k : Int) < (l0.length : Int) := by omega
        have HSl : Sl wo w.heap.size 4 encM A0 l0 := (H0.out.1.below (HB1.out.trans (HB.out.mono HB1.out.size)))
        obtain ⟨bb, off, hA2, hbB, g0, g1, g2, g3⟩ := HSl.mod hlt
        have HT := Lib.hid (downL_take (R := regW Y) (rp := rm.1) (m := m) hlt)
        rw [downB_eq] at HT
        generalize l0[k] = x at g0 g1 g2 g3 HT
        have HX := Lib.hid (show Below wo.heap.size wo (wo.alloc (.cells #[.string ⟨x.1.toArray⟩, .int .i64 x.2.1, .int .i64 x.2.2.1, .int .i64 x.2.2.2] 30)) from (Below.refl _ _).alloc (Nat.le_refl _) _)
        have HBx := Lib.hid (HB.out.trans (HX.out.mono HB.out.size))
        have HOx := Lib.hid (own_below2 HO.out HX.out)
        have BX := Lib.hid (Blk.new wo 30 (modA x))
        unfold modA at BX
        have hzx : (wo.alloc (.cells #[.string ⟨x.1.toArray⟩, .int .i64 x.2.1, .int .i64 x.2.2.1, .int .i64 x.2.2.2] 30)).heap.size = wo.heap.size + 1 := by simp
        have HA2 := Lib.hid hA2
        rw [hA2] at r4
        clear hA2 HSl
        go_wp2
        go_loopw [12, 13] (fun v i wr => ∃ (q nf : Nat) (Af : Option Addr) (cf : Nat), i = .int .i64 (q : Nat) ∧ v = .slice Af nf cf ∧ q ≤ Y.length ∧ nf ≤ q ∧ Hid (nf = ((((regW Y).map (·.1)).take q).filter (fitP (regW Y) rm.1 m x)).length) ∧ Hid (wr.ownsRow (wo.heap.size + 1) 30 4 (.slice Af nf cf) nf (((((regW Y).map (·.1)).take q).filter (fitP (regW Y) rm.1 m x)).flatMap encM)) ∧ Hid (Below (wo.heap.size + 1) (wo.alloc (.cells #[.string ⟨x.1.toArray⟩, .int .i64 x.2.1, .int .i64 x.2.2.1, .int .i64 x.2.2.2] 30)) wr)) (fun _ i _ => Y.length - (intOf i).toNat)
        case atStart => exact ⟨0, 0, none, 0, rfl, rfl, Nat.zero_le _, Nat.le_refl _, Lib.hid rfl, Lib.hid (World.ownsRow_nil _ _ _ _), Lib.hid (Below.refl _ _)⟩
        case round =>
          obtain ⟨q, nf, Af, cf, rfl, rfl, hq, hnf, HNF, HF, HBi⟩ := hrel
          have hzi := HBi.out.size
          rw [hzx] at hzi
          have HBf := Lib.hid (HBx.out.trans (HBi.out.mono (show w1.heap.size ≤ wo.heap.size + 1 by omega)))
          have BXi := Lib.hid (BX.out.keep (by rw [hzx]; exact HBi.out))
          by_cases hqlt : q < Y.length
          · have hqlt' : (q : Int) < (Y.length : Int) := by omega
            have HBw := HB1.out.trans (HBf.out.mono HB1.out.size)
            obtain ⟨b2, off2, hAY, hb2, e0, e1, e2, e3, _⟩ := (HY.out.step HBw).1.man hqlt
            have hgr : ((regW Y).map (·.1))[q]'(by rw [hml]; exact hqlt) = Y[q].1 := by simp [regW, plainW]
            have HTq := Lib.hid (show (((regW Y).map (·.1)).take (q + 1)).filter (fitP (regW Y) rm.1 m x) = (((regW Y).map (·.1)).take q).filter (fitP (regW Y) rm.1 m x) ++ if fitP (regW Y) rm.1 m x Y[q].1 = true then [Y[q].1] else [] by
              rw [List.take_succ_eq_append_getElem (by rw [hml]; exact hqlt), List.filter_append, hgr]
              congr 1
              rw [List.filter_cons]
              rfl)
            generalize Y[q].1 = y at e0 e1 e2 e3 HTq hgr
            have HAY := Lib.hid hAY
            subst hAY
            have HYa := Lib.hid (show Below wr.heap.size wr (wr.alloc (.cells #[.string ⟨y.1.toArray⟩, .int .i64 y.2.1, .int .i64 y.2.2.1, .int .i64 y.2.2.2] 30)) from (Below.refl _ _).alloc (Nat.le_refl _) _)
            have BY := Lib.hid (Blk.new wr 30 (modA y))
            unfold modA at BY
            have HBy := Lib.hid (HBi.out.trans (HYa.out.mono hzi))
            have HFy := Lib.hid (own_below2 HF.out HYa.out)
            have HBfy := Lib.hid (HBf.out.trans (HYa.out.mono HBf.out.size))
            have BXy := Lib.hid (BXi.out.keep HYa.out)
            obtain ⟨v0, v1, v2, v3⟩ := modC BY.out
            obtain ⟨t0, t1, t2, t3⟩ := modC BXy.out
            have hzy : wo.heap.size + 1 ≤ (wr.alloc (.cells #[.string ⟨y.1.toArray⟩, .int .i64 y.2.1, .int .i64 y.2.2.1, .int .i64 y.2.2.2] 30)).heap.size := by simp; omega
            by_cases hp : y.1 = x.1
            · have hp1 : (y.1 == x.1) = true := by rw [hp]; exact beq_self_eq_true _
              have HP := Lib.hid hp
              have cc0 : ∀ W, Calls Tryz.prog 43 #[.agg #[.int .i64 y.2.1, .int .i64 y.2.2.1, .int .i64 y.2.2.2], .agg #[.int .i64 x.2.1, .int .i64 x.2.2.1, .int .i64 x.2.2.2]] W fun e w' => e = .returned (.int .i64 (vcmpV y.2 x.2)) ∧ Below W.heap.size W w' := fun W => refCompare_any _ _ _ _ _ _ W
              have hfit : fitP (regW Y) rm.1 m x y = (decide (vcmpV y.2 x.2 ≤ 0) && lowP (regW Y) rm.1 m y) := by unfold fitP; rw [decide_eq_true hp]; rfl
              rw [hfit] at HTq
              have cLy0 := cLw.out y
              generalize vcmpV y.2 x.2 = d at cc0 HTq
              generalize lowP (regW Y) rm.1 m y = lp at cLy0 HTq
              have cm := Lib.hid cc0
              have cLy := Lib.hid cLy0
              clear cc0 hfit hp cLy0
              by_cases hd : d ≤ 0
              · have hd1 : decide (d ≤ 0) = true := decide_eq_true hd
                rw [hd1] at HTq
                go_wp2_with fail
                refine (cm.out _).mono ?_
                rintro e w4 ⟨rfl, hb4⟩
                have HB4 := Lib.hid (HBfy.out.trans (hb4.mono HBfy.out.size))
                have HB4i := Lib.hid (HBy.out.trans (hb4.mono hzy))
                have HF4 := Lib.hid (own_below2 HFy.out hb4)
                have BY4 := Lib.hid (BY.out.keep hb4)
                obtain ⟨u0, u1, u2, u3⟩ := modC BY4.out
                obtain ⟨m0, m1, m2, m3⟩ := modC (P1.out.keep HB4.out)
                obtain ⟨p0, _, _, _, _⟩ := manC (P0.out.keep HB4.out)
                have cL4 := Lib.hid (cLy.out _ HB4.out)
                clear hb4 cm v0 v1 v2 v3 t0 t1 t2 t3
                go_wp2_with fail
                refine cL4.out.mono ?_
                rintro e w5 ⟨rfl, hb5⟩
                have hz4 := HB4i.out.size
                rw [hzx] at hz4
                have HB5i := Lib.hid (HB4i.out.trans (hb5.mono hz4))
                have HF5 := Lib.hid (own_below2 HF4.out hb5)
                have BY5 := Lib.hid (BY4.out.keep hb5)
                clear hb5 cL4 u0 u1 u2 u3 m0 m1 m2 m3 p0 hd hd1
                cases lp with
                | true =>
                  have HT2 := Lib.hid (show (((regW Y).map (·.1)).take (q + 1)).filter (fitP (regW Y) rm.1 m x) = (((regW Y).map (·.1)).take q).filter (fitP (regW Y) rm.1 m x) ++ [y] from HTq.out)
                  have hz5 := HB5i.out.size
                  rw [hzx] at hz5
                  obtain ⟨A7, c7, w7, hap, hO7, hb7⟩ := row_app (m := y) HF5.out hz5 (by omega)
                  have HF7 := Lib.hid hO7
                  have HB7 := Lib.hid (HB5i.out.trans hb7)
                  obtain ⟨u0, u1, u2, u3⟩ := modC BY5.out
                  clear HTq hO7 hb7
                  go_wp2_with (at_builtin; refine wpList_app1 rfl _ _ _ _ rfl _ _ rfl rfl hap ?_)
                  go_roundw
                  case rel => exact ⟨q + 1, nf + 1, A7, c7, by go_num, rfl, by omega, by omega, Lib.hid (by rw [HT2.out, List.length_append, ← HNF.out]; rfl), Lib.hid (by rw [HT2.out]; exact HF7.out), HB7⟩
                  case measure => simp [intOf]; omega
                | false =>
                  have HT2 := Lib.hid (show (((regW Y).map (·.1)).take (q + 1)).filter (fitP (regW Y) rm.1 m x) = (((regW Y).map (·.1)).take q).filter (fitP (regW Y) rm.1 m x) from HTq.out.trans (List.append_nil _))
                  clear HTq
                  go_wp2
                  go_roundw
                  case rel => exact ⟨q + 1, nf, Af, cf, by go_num, rfl, by omega, by omega, Lib.hid (by rw [HT2.out]; exact HNF.out), Lib.hid (by rw [HT2.out]; exact HF5.out), HB5i⟩
                  case measure => simp [intOf]; omega
              · have hd1 : decide (d ≤ 0) = false := decide_eq_false hd
                rw [hd1] at HTq
                have HT2 := Lib.hid (show (((regW Y).map (·.1)).take (q + 1)).filter (fitP (regW Y) rm.1 m x) = (((regW Y).map (·.1)).take q).filter (fitP (regW Y) rm.1 m x) from HTq.out.trans (List.append_nil _))
                clear HTq
                go_wp2_with fail
                refine (cm.out _).mono ?_
                rintro e w4 ⟨rfl, hb4⟩
                have HB4i := Lib.hid (HBy.out.trans (hb4.mono hzy))
                have HF4 := Lib.hid (own_below2 HFy.out hb4)
                clear hb4 cm v0 v1 v2 v3 t0 t1 t2 t3
                go_wp2
                go_roundw
                case rel => exact ⟨q + 1, nf, Af, cf, by go_num, rfl, by omega, by omega, Lib.hid (by rw [HT2.out]; exact HNF.out), Lib.hid (by rw [HT2.out]; exact HF4.out), HB4i⟩
                case measure => simp [intOf]; omega
            · have hp1 : (y.1 == x.1) = false := beq_eq_false_iff_ne.2 hp
              have hfit : fitP (regW Y) rm.1 m x y = false := by unfold fitP; rw [decide_eq_false hp]; rfl
              rw [hfit] at HTq
              have HT2 := Lib.hid (show (((regW Y).map (·.1)).take (q + 1)).filter (fitP (regW Y) rm.1 m x) = (((regW Y).map (·.1)).take q).filter (fitP (regW Y) rm.1 m x) from HTq.out.trans (List.append_nil _))
              clear HTq hfit hp
              go_wp2
              go_roundw
              case rel => exact ⟨q + 1, nf, Af, cf, by go_num, rfl, by omega, by omega, Lib.hid (by rw [HT2.out]; exact HNF.out), Lib.hid (by rw [HT2.out]; exact HFy.out), HBy⟩
              case measure => simp [intOf]; omega
          · obtain rfl : q = Y.length := by omega
            rw [List.take_of_length_le (by rw [hml]; exact Nat.le_refl _)] at HNF HF
            obtain ⟨FF, hFF⟩ : ∃ FF, FF = ((regW Y).map (·.1)).filter (fitP (regW Y) rm.1 m x) := ⟨_, rfl⟩
            rw [← hFF] at HNF HF HT
            have cG0 := cGr.out Af cf nf FF x.1 HNF.out (by omega) wr (Acc.slAny (.inl HF.out) encM_len (by decide))
            unfold RetG at cG0
            generalize greatestP FF x.1 = go at cG0 HT
            have cG := Lib.hid cG0
            have HOi := Lib.hid (own_below2 HOx.out (by rw [hzx]; exact HBi.out))
            obtain ⟨t0, t1, t2, t3⟩ := modC BXi.out
            clear hFF cG0
            go_wp2_with fail
            refine cG.out.mono ?_
            rintro e w6 ⟨rfl, hb6⟩
            have HB6 := Lib.hid (HBf.out.trans (hb6.mono HBf.out.size))
            have HO6 := Lib.hid (own_below2 HOi.out hb6)
            clear hb6 cG t0 t1 t2 t3
            obtain ⟨g, hg⟩ : ∃ g, g = go.getD zmod := ⟨_, rfl⟩
            rw [← hg]
            have HG := Lib.hid hg
            have HA6 := Lib.hid (show Below w6.heap.size w6 (w6.alloc (.cells #[.string ⟨g.1.toArray⟩, .int .i64 g.2.1, .int .i64 g.2.2.1, .int .i64 g.2.2.2] 30)) from (Below.refl _ _).alloc (Nat.le_refl _) _)
            have HB7 := Lib.hid (HB6.out.trans (HA6.out.mono HB6.out.size))
            have HO7 := Lib.hid (own_below2 HO6.out HA6.out)
            clear hg
            cases go with
            | none =>
              have HT2 := Lib.hid (show downL (regW Y) rm.1 m (l0.take (k + 1)) = downL (regW Y) rm.1 m (l0.take k) from HT.out.trans (List.append_nil _))
              go_wp2
              go_roundw
              case rel => exact ⟨k + 1, n, Av, cv, by go_num, rfl, by omega, by omega, Lib.hid (by rw [HT2.out]; exact HN.out), Lib.hid (by rw [HT2.out]; exact HO7.out), HB7⟩
              case measure => simp [intOf]; omega
            | some u =>
              have hgu : g = u := HG.out
              subst hgu
              have HT2 := Lib.hid (show downL (regW Y) rm.1 m (l0.take (k + 1)) = downL (regW Y) rm.1 m (l0.take k) ++ [g] from HT.out)
              have BG := Lib.hid (Blk.new w6 30 (modA g))
              unfold modA at BG
              obtain ⟨v0, v1, v2, v3⟩ := modC BG.out
              obtain ⟨A8, c8, w8, hap, hO8, hb8⟩ := row_app (m := g) HO7.out HB7.out.size (by omega)
              rw [show (w6.alloc (.cells #[.string ⟨g.1.toArray⟩, .int .i64 g.2.1, .int .i64 g.2.2.1, .int .i64 g.2.2.2] 30)).heap.size = w6.heap.size + 1 by simp] at hap
              have HO8 := Lib.hid hO8
              have HB8 := Lib.hid (HB7.out.trans hb8)
              clear HT hO8 hb8
              go_wp2_with (at_builtin; refine wpList_app1 rfl _ _ _ _ rfl _ _ rfl rfl hap ?_)
              go_roundw
              case rel => exact ⟨k + 1, n + 1, A8, c8, by go_num, rfl, by omega, by omega, Lib.hid (by rw [HT2.out, List.length_append, ← HN.out]; rfl), Lib.hid (by rw [HT2.out]; exact HO8.out), HB8⟩
              case measure => simp [intOf]; omega
      · obtain rfl : k = l0.length := by omega
        rw [List.take_of_length_le (Nat.le_refl _)] at HN HO
        obtain ⟨D, hD⟩ : ∃ D, D = downL (regW Y) rm.1 m l0 := ⟨_, rfl⟩
        rw [← hD] at HN HO HR1
        obtain ⟨w9, hw9⟩ : ∃ w9, w9 = wo := ⟨_, rfl⟩
        subst hw9
        obtain ⟨nb, hnb⟩ : ∃ nb, nb = n := ⟨_, rfl⟩
        subst hnb
        have hsl := (Acc.slAny (.inl HO.out) encM_len (by decide) : Sl w9 w9.heap.size 4 encM Av D)
        have HSD := Lib.hid hsl
        have HRS := Lib.hid (P2.out.keep HB.out)
        have HNB := Lib.hid HN.out
        have cSo := Lib.hid (fun W (hz : w.heap.size + 2 < W.heap.size) (hS : Sl W W.heap.size 4 encM Av D) => show Calls Tryz.prog 35 #[.slice Av nb cv] W fun e w' => ∃ A' c', e = .returned (.slice A' nb c') ∧ (∀ a, A' = some a → w.heap.size + 2 < a.block) ∧ Sl w' w'.heap.size 4 encM A' (msort D) ∧ Below W.heap.size W w' by
          have h := refSorted_far Av cv D W hS (by rw [← HNB.out]; omega)
          rw [← HNB.out] at h
          exact h.mono fun e w' ⟨A', c', he, hf, hS, hb⟩ => ⟨A', c', he, fun a ha => Nat.lt_of_lt_of_le hz (hf a ha), hS, hb⟩)
        obtain ⟨z0, z1, z2, z3, z4⟩ := manC (P0.out.keep HB.out)
        have HBz := Lib.hid HB
        clear hD hsl r0 r1 r2 r3 r4
        go_upto_region 19 with fail
        apply wp_region_each (by kernel_rfl) (RDInv (w.heap.size + 2) w9 w.heap.size rm nb D Av _ _ _ _ _ _ _ _ _ _ _ _ _ _ _ _ _ _ _ _ _ _ _ _ _ _ _ _ _ _ _ _ _ _ _ _ _ _ _ _ _ _ _ _ _ _ _ _ _ _ _ _ _ _ _ _ _ _ _ _ _ _ _ _ _ _ _ _ _ _ _ _ _ _ _ _ _ _ _ _ _ _ _ _ _) ?hsz ?h0 ?step (by kernel_rfl) ?fin
        case h0 =>
          exact ⟨false, false, false, false, false, false, false, _, _, _, _, _, _, rfl, rfl, (Below.refl _ _).drew, fun h => absurd h (by decide), fun h => absurd h (by decide), fun h => absurd h (by decide), fun h => absurd h (by decide), fun h => absurd h (by decide), fun h => absurd h (by decide), fun h => absurd h (by decide), fun _ => ⟨HSD.out, HRS.out⟩⟩
        case hsz =>
          rintro L a w ⟨b0, b1, b2, b3, b4, b5, b6, s7, s86, s87, s88, s89, s90, rfl, _⟩
          rfl
        case step =>
          rintro i o ho L a W hn hd ⟨b0, b1, b2, b3, b4, b5, b6, s7, s86, s87, s88, s89, s90, rfl, rfl, hB, h0, h1, h2, h3, h4, h5, h6, x0⟩
          have hBz := Nat.le_trans (show w.heap.size + 2 ≤ w9.heap.size by have := HRS.out.lt; omega) hB.size
          match i, ho with
          | 0, ho =>
            simp at ho; subst ho
            simp only [Region.wanted, if_true]
            left
            go_simp
            exact ⟨true, b1, b2, b3, b4, b5, b6, _, _, _, _, _, _, rfl, rfl, hB, fun _ => rfl, (by first | exact h1 | exact fun _ => rfl), (by first | exact h2 | exact fun _ => rfl), (by first | exact h3 | exact fun _ => rfl), (by first | exact h4 | exact fun _ => rfl), (by first | exact h5 | exact fun _ => rfl), (by first | exact h6 | exact fun _ => rfl), x0⟩
          | 1, ho =>
            simp at ho; subst ho
            have e0 : b0 = true := by simp [Region.binds] at hd; simp [hd]
            subst e0
            obtain rfl := h0 rfl
            have hx0 := hB.cell (p := ⟨w.heap.size, 0, none⟩) (by simp)
            have hx1 := hB.cell (p := ⟨w.heap.size, 1, none⟩) (by simp)
            have hx2 := hB.cell (p := ⟨w.heap.size, 2, none⟩) (by simp)
            have hx3 := hB.cell (p := ⟨w.heap.size, 3, none⟩) (by simp)
            rw [z0] at hx0
            rw [z1] at hx1
            rw [z2] at hx2
            rw [z3] at hx3
            simp only [Region.wanted, if_true]
            left
            go_simp
            exact ⟨true, true, b2, b3, b4, b5, b6, _, _, _, _, _, _, rfl, rfl, hB, (by first | exact h0 | exact fun _ => rfl), fun _ => rfl, (by first | exact h2 | exact fun _ => rfl), (by first | exact h3 | exact fun _ => rfl), (by first | exact h4 | exact fun _ => rfl), (by first | exact h5 | exact fun _ => rfl), (by first | exact h6 | exact fun _ => rfl), x0⟩
          | 2, ho =>
            simp at ho; subst ho
            simp only [Region.wanted, if_true]
            left
            go_simp
            exact ⟨b0, b1, true, b3, b4, b5, b6, _, _, _, _, _, _, rfl, rfl, hB, (by first | exact h0 | exact fun _ => rfl), (by first | exact h1 | exact fun _ => rfl), fun _ => rfl, (by first | exact h3 | exact fun _ => rfl), (by first | exact h4 | exact fun _ => rfl), (by first | exact h5 | exact fun _ => rfl), (by first | exact h6 | exact fun _ => rfl), x0⟩
          | 3, ho =>
            simp at ho; subst ho
            have e2 : b2 = true := by simp [Region.binds] at hd; simp [hd]
            subst e2
            obtain rfl := h2 rfl
            simp at hn
            subst hn
            have hb5 : b5 = false := by cases b5 with | false => rfl | true => exact absurd (h5 rfl).1 (by decide)
            subst hb5
            have hx := x0 rfl
            simp only [Region.wanted, if_true]
            left
            go_simp
            refine (cSo.out W (by have := hx.2.lt; omega) hx.1).mono ?_
            rintro e W2 ⟨A, c, rfl, hf, hS, hb2⟩
            have hlt := hx.2.lt
            exact ⟨b0, b1, true, true, b4, false, b6, _, _, _, _, _, _, rfl, rfl, hB.trans ((hb2).mono hBz), (by first | exact h0 | exact fun _ => rfl), (by first | exact h1 | exact fun _ => rfl), (by first | exact h2 | exact fun _ => rfl), fun _ => ⟨A, c, rfl, fun a ha => by have h8 := hf a ha; omega, hS⟩, (by first | exact fun hh => (match (h4 hh) with | ⟨A, c, e, h0, h1⟩ => ⟨A, c, e, h0, (h1.below hb2).more (hb2).size⟩) | exact fun _ => rfl), fun h => absurd h (by decide), (by first | exact h6 | exact fun _ => rfl), fun h => ⟨((x0 h).1.below hb2).more (hb2).size, (x0 h).2.keep hb2⟩⟩
          | 4, ho =>
            simp at ho; subst ho
            have e1 : b1 = true := by simp [Region.binds] at hd; simp [hd]
            have e3 : b3 = true := by simp [Region.binds] at hd; simp [hd]
            subst e1
            subst e3
            obtain rfl := h1 rfl
            obtain ⟨A5, c5, rfl, hf5, hS5⟩ := h3 rfl
            simp only [Region.wanted, if_true]
            left
            go_simp
            exact ⟨b0, true, b2, true, true, b5, b6, _, _, _, _, _, _, rfl, rfl, hB, (by first | exact h0 | exact fun _ => rfl), (by first | exact h1 | exact fun _ => rfl), (by first | exact h2 | exact fun _ => rfl), (by first | exact h3 | exact fun _ => rfl), fun _ => ⟨A5, c5, rfl, hf5, hS5⟩, (by first | exact h5 | exact fun _ => rfl), (by first | exact h6 | exact fun _ => rfl), x0⟩
          | 5, ho =>
            simp at ho; subst ho
            have e3 : b3 = true := by simp [Region.binds] at hd; simp [hd]
            have e4 : b4 = true := by simp [Region.binds] at hd; simp [hd]
            subst e3
            subst e4
            obtain ⟨A6, c6, rfl, hf6, hS6⟩ := h4 rfl
            simp at hn
            subst hn
            obtain ⟨_, p8⟩ := x0 rfl
            have k0 := p8.cell 0
            have k1 := p8.cell 1
            have k2 := p8.cell 2
            have k3 := p8.cell 3
            have k4 := p8.cell 4
            have f0 := p8.free 0
            have f1 := p8.free 1
            have f2 := p8.free 2
            have f3 := p8.free 3
            have f4 := p8.free 4
            simp [manA, zmod] at k0 k1 k2 k3 k4
            simp only [Region.wanted, if_true]
            left
            go_simp
            exact ⟨b0, b1, b2, true, true, true, b6, _, _, _, _, _, _, rfl, rfl, ((((hB.setCell (p := ⟨w.heap.size + 2, 0, none⟩) (Nat.le_refl _) _).setCell (p := ⟨w.heap.size + 2, 1, none⟩) (Nat.le_refl _) _).setCell (p := ⟨w.heap.size + 2, 2, none⟩) (Nat.le_refl _) _).setCell (p := ⟨w.heap.size + 2, 3, none⟩) (Nat.le_refl _) _).setCell (p := ⟨w.heap.size + 2, 4, none⟩) (Nat.le_refl _) _, (by first | exact h0 | exact fun _ => rfl), (by first | exact h1 | exact fun _ => rfl), (by first | exact h2 | exact fun _ => rfl), fun hh => (match (h3 hh) with | ⟨A, c, e, h0, h1⟩ => ⟨A, c, e, h0, sl_set5 h1 (fun a ha => by have h8 := h0 a ha; omega) _ _ _ _ _⟩), fun _ => ⟨A6, c6, rfl, hf6, sl_set5 hS6 (fun a ha => by have h8 := hf6 a ha; omega) _ _ _ _ _⟩, fun _ => ⟨rfl, A6, c6, ((((p8.set_ 0 _).set_ 1 _).set_ 2 _).set_ 3 _).set_ 4 _, hf6, sl_set5 hS6 (fun a ha => by have h8 := hf6 a ha; omega) _ _ _ _ _⟩, (by first | exact h6 | exact fun _ => rfl), fun h => absurd h (by decide)⟩
          | 6, ho =>
            simp at ho; subst ho
            simp only [Region.wanted, if_true]
            left
            go_simp
            exact ⟨b0, b1, b2, b3, b4, b5, true, _, _, _, _, _, _, rfl, rfl, hB, (by first | exact h0 | exact fun _ => rfl), (by first | exact h1 | exact fun _ => rfl), (by first | exact h2 | exact fun _ => rfl), (by first | exact h3 | exact fun _ => rfl), (by first | exact h4 | exact fun _ => rfl), (by first | exact h5 | exact fun _ => rfl), fun _ => rfl, x0⟩
          | i + 7, ho => simp at ho
        case fin =>
          rintro L a wf hr ⟨b0, b1, b2, b3, b4, b5, b6, s7, s86, s87, s88, s89, s90, hL, rfl, hB, h0, h1, h2, h3, h4, h5, h6, x0⟩
          subst hL
          obtain rfl : b5 = true := hr 5 (by decide)
          obtain rfl : b6 = true := hr 6 (by decide)
          obtain ⟨_, A7, c7, hbk, hf7, hS7⟩ := h5 rfl
          obtain rfl := h6 rfl
          clear hr h0 h1 h2 h3 h4 h5 h6 x0
          have k0 := hbk.cell 0
          have k1 := hbk.cell 1
          have k2 := hbk.cell 2
          have k3 := hbk.cell 3
          have k4 := hbk.cell 4
          simp at k0 k1 k2 k3 k4
          have HF := Lib.hid (show Q (.returned (.tuple #[.agg #[.string ⟨rm.1.toArray⟩, .int .i64 rm.2.1, .int .i64 rm.2.2.1, .int .i64 rm.2.2.2, .slice A7 nb c7], .int .i64 0])) wf by
            rw [← hQ]
            exact retMF_some HR1.out (by rw [msort_len]; exact HNB.out) hS7 (.inr fun a ha => by have := hf7 a ha; omega) ((HB1.out.trans (HBz.out.out.mono HB1.out.size)).trans (hB.mono (Nat.le_add_right _ 2))))
          clear hB hS7 hbk
          go_wp2
          refine bodyPost_ret (v := .tuple #[.agg #[.string ⟨rm.1.toArray⟩, .int .i64 rm.2.1, .int .i64 rm.2.2.1, .int .i64 rm.2.2.2, .slice A7 nb c7], .int .i64 0]) (by simp [results, Tryz.results17, go_sem, k0, k1, k2, k3, k4]) rfl HF.out
  · have he : (E != 0) = true := by simpa using hE
    have HR1 := Lib.hid (HR.out.trans (if_neg hE))
    clear HR hE
    have k0 := P2.out.cell 0
    have k1 := P2.out.cell 1
    have k2 := P2.out.cell 2
    have k3 := P2.out.cell 3
    have k4 := P2.out.cell 4
    have f0 := P2.out.free 0
    have f1 := P2.out.free 1
    have f2 := P2.out.free 2
    have f3 := P2.out.free 3
    have f4 := P2.out.free 4
    simp at k0 k1 k2 k3 k4
    go_wp2
    refine bodyPost_ret (v := .tuple #[.agg #[.string ⟨#[]⟩, .int .i64 0, .int .i64 0, .int .i64 0, .slice none 0 0], .int .i64 E]) (by simp [results, Tryz.results17, go_sem, k0, k1, k2, k3, k4]; try rfl) rfl ?_
    rw [← hQ]
    refine retMF_zero HR1.out ?_
    have hge : w.heap.size ≤ w.heap.size + 1 + 1 := by omega
    exact ((((HB1.out.setCell hge _).setCell hge _).setCell hge _).setCell hge _).setCell hge _
end Go.Proofs.YtfiilbdkhelhgaaGreatDoor
